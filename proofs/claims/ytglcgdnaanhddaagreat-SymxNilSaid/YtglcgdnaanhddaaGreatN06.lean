/- Contracts and plain laws that a statement's proof leans on (texts merged: Az, XP0, XP1, XP1A, XP2, XP2A). -/
import Derived.Test.YtglcgdnaanhddaaGreatN05
set_option linter.unusedVariables false
set_option linter.unusedSimpArgs false
set_option maxRecDepth 100000
set_option maxHeartbeats 8000000
namespace Go.Proofs.YtglcgdnaanhddaaGreat
open Go Go.Ev
abbrev EL := List (Ev Tryz.prog)
theorem bft (b : Bool) : b = true ∨ b = false := Bool.eq_false_or_eq_true b
theorem sl0 : (∀ {p : Prop} [Decidable p], (decide p = true) = p) ∧ (∀ {p : Prop} [Decidable p], (decide p = false) ↔ ¬p) ∧ (∀ (b : Bool), (¬(b = true)) = (b = false)) ∧ (∀ {α : Type} [BEq α] [LawfulBEq α] {a b : α}, (a == b) = true ↔ a = b) ∧ (∀ {α : Type} [BEq α] [LawfulBEq α] {a b : α}, (a == b) = false ↔ a ≠ b) ∧ (∀ (a b : Bool), (D.bool a = D.bool b) = (a = b)) := ⟨@decide_eq_true_eq, @decide_eq_false_iff_not, @Bool.not_eq_true, @beq_iff_eq, @beq_eq_false_iff_ne, @D.bool.injEq⟩
theorem sl2 : (∀ n : Int, IntKind.i8.wrap n = (n + 128) % 256 - 128) ∧ (∀ n : Int, IntKind.u8.wrap n = n % 256) ∧ (∀ n : Int, IntKind.i64.wrap n = (n + 9223372036854775808) % 18446744073709551616 - 9223372036854775808) ∧ (∀ n : Int, IntKind.u64.wrap n = n % 18446744073709551616) ∧ (∀ {p : Prop} [Decidable p], (decide p = true) = p) ∧ (∀ {p : Prop} [Decidable p], (decide p = false) ↔ ¬p) ∧ (∀ {α : Type} [BEq α] [LawfulBEq α] {a b : α}, (a == b) = true ↔ a = b) ∧ (∀ {α : Type} [BEq α] [LawfulBEq α] {a b : α}, (a != b) = true ↔ a ≠ b) ∧ (∀ {α : Type} [BEq α] [LawfulBEq α] {a b : α}, (a == b) = false ↔ a ≠ b) ∧ (∀ {α : Type} [BEq α] [LawfulBEq α] {a b : α}, (a != b) = false ↔ a = b) ∧ (∀ (b : Bool), ((!b) = true) = (b = false)) ∧ (∀ (b : Bool), ((!b) = false) = (b = true)) ∧ (∀ (a b : Bool), ((a && b) = true) = (a = true ∧ b = true)) ∧ (∀ (a b : Bool), ((a || b) = true) = (a = true ∨ b = true)) := ⟨@w_i8, @w_u8, @w_i64, @w_u64, @decide_eq_true_eq, @decide_eq_false_iff_not, @beq_iff_eq, @bne_iff_ne, @beq_eq_false_iff_ne, @bne_eq_false_iff_eq, @Bool.not_eq_true', @Bool.not_eq_false', @Bool.and_eq_true, @Bool.or_eq_true⟩
def OE (n : Nat) (f : Func) : Prop := ∀ {x : List D} {d : D} (o : EL), evalRet Tryz.prog f x o = some (d, selfs o True) → Ret Tryz.prog n x d
theorem o0 : OE 0 Tryz.f0 := Ret.of_eval mixed Tryz.func0 (by kernel_rfl)
theorem o1 : OE 1 Tryz.f1 := Ret.of_eval mixed Tryz.func1 (by kernel_rfl)
theorem o2 : OE 2 Tryz.f2 := Ret.of_eval mixed Tryz.func2 (by kernel_rfl)
theorem o3 : OE 3 Tryz.f3 := Ret.of_eval mixed Tryz.func3 (by kernel_rfl)
theorem o15 : OE 15 Tryz.f15 := Ret.of_eval mixed Tryz.func15 (by kernel_rfl)
theorem o29 : OE 29 Tryz.f29 := Ret.of_eval mixed Tryz.func29 (by kernel_rfl)
theorem o30 : OE 30 Tryz.f30 := Ret.of_eval mixed Tryz.func30 (by kernel_rfl)
theorem o32 : OE 32 Tryz.f32 := Ret.of_eval mixed Tryz.func32 (by kernel_rfl)
theorem o33 : OE 33 Tryz.f33 := Ret.of_eval mixed Tryz.func33 (by kernel_rfl)
theorem o34 : OE 34 Tryz.f34 := Ret.of_eval mixed Tryz.func34 (by kernel_rfl)
theorem o63 : OE 63 Tryz.f63 := Ret.of_eval mixed Tryz.func63 (by kernel_rfl)
theorem o64 : OE 64 Tryz.f64 := Ret.of_eval mixed Tryz.func64 (by kernel_rfl)
theorem o65 : OE 65 Tryz.f65 := Ret.of_eval mixed Tryz.func65 (by kernel_rfl)
theorem o66 : OE 66 Tryz.f66 := Ret.of_eval mixed Tryz.func66 (by kernel_rfl)
theorem o67 : OE 67 Tryz.f67 := Ret.of_eval mixed Tryz.func67 (by kernel_rfl)
theorem o69 : OE 69 Tryz.f69 := Ret.of_eval mixed Tryz.func69 (by kernel_rfl)
theorem o70 : OE 70 Tryz.f70 := Ret.of_eval mixed Tryz.func70 (by kernel_rfl)
theorem o71 : OE 71 Tryz.f71 := Ret.of_eval mixed Tryz.func71 (by kernel_rfl)
theorem o73 : OE 73 Tryz.f73 := Ret.of_eval mixed Tryz.func73 (by kernel_rfl)
theorem o83 : OE 83 Tryz.f83 := Ret.of_eval mixed Tryz.func83 (by kernel_rfl)
theorem o101 : OE 101 Tryz.f101 := Ret.of_eval mixed Tryz.func101 (by kernel_rfl)
theorem o102 : OE 102 Tryz.f102 := Ret.of_eval mixed Tryz.func102 (by kernel_rfl)
theorem o103 : OE 103 Tryz.f103 := Ret.of_eval mixed Tryz.func103 (by kernel_rfl)
theorem o111 : OE 111 Tryz.f111 := Ret.of_eval mixed Tryz.func111 (by kernel_rfl)
theorem o112 : OE 112 Tryz.f112 := Ret.of_eval mixed Tryz.func112 (by kernel_rfl)
theorem o113 : OE 113 Tryz.f113 := Ret.of_eval mixed Tryz.func113 (by kernel_rfl)
theorem o114 : OE 114 Tryz.f114 := Ret.of_eval mixed Tryz.func114 (by kernel_rfl)
theorem o144 : OE 144 Tryz.f144 := Ret.of_eval mixed Tryz.func144 (by kernel_rfl)
theorem o145 : OE 145 Tryz.f145 := Ret.of_eval mixed Tryz.func145 (by kernel_rfl)
theorem getF_ok (a b c d : Int) (a0 : 0 ≤ a) (a1 : a ≤ 255) (b0 : 0 ≤ b) (b1 : b ≤ 255) (c0 : 0 ≤ c) (c1 : c ≤ 255) (d0 : 0 ≤ d) (d1 : d ≤ 255) : Ret Tryz.prog 145 ([.lst .no 1 [.int .u8 a, .int .u8 b, .int .u8 c, .int .u8 d]]) (.int .u64 (a + 256 * b + 65536 * c + 16777216 * d)) := by
 exact (o145 (d := .int .u64 (IntKind.wrap IntKind.u64 (↑(BitVec.toNat (BitVec.ofInt (64 : Nat) (IntKind.wrap IntKind.u64 (IntKind.wrap IntKind.u64 (↑(BitVec.toNat (BitVec.ofInt (64 : Nat) (IntKind.wrap IntKind.u64 (IntKind.wrap IntKind.u64 (↑(BitVec.toNat (BitVec.ofInt (64 : Nat) (IntKind.wrap IntKind.u64 (IntKind.wrap IntKind.u64 (↑(BitVec.toNat (BitVec.ofInt (64 : Nat) 0 ||| BitVec.ofInt (64 : Nat) (IntKind.wrap IntKind.u64 d))) : Int) * 256)) ||| BitVec.ofInt (64 : Nat) (IntKind.wrap IntKind.u64 c))) : Int) * 256)) ||| BitVec.ofInt (64 : Nat) (IntKind.wrap IntKind.u64 b))) : Int) * 256)) ||| BitVec.ofInt (64 : Nat) (IntKind.wrap IntKind.u64 a))) : Int))) [.go 64, tT, tT, .get ([.int .u8 a, .int .u8 b, .int .u8 c, .int .u8 d]) 3 (.int .u8 d) rfl, tT, tT, .get ([.int .u8 a, .int .u8 b, .int .u8 c, .int .u8 d]) 2 (.int .u8 c) rfl, tT, tT, .get ([.int .u8 a, .int .u8 b, .int .u8 c, .int .u8 d]) 1 (.int .u8 b) rfl, tT, tT, .get ([.int .u8 a, .int .u8 b, .int .u8 c, .int .u8 d]) 0 (.int .u8 a) rfl, tF] (by kernel_rfl)).to (by simp only [wk, D.int.injEq, true_and]; rw [orb64z (y := d) (by omega) (by omega), orb64 (x := d) (y := c) (by omega) (by omega) (by omega) (by omega), orb64 (x := d * 256 + c) (y := b) (by omega) (by omega) (by omega) (by omega), orb64 (x := (d * 256 + c) * 256 + b) (y := a) (by omega) (by omega) (by omega) (by omega)]; omega)
theorem signedF_ok (a b c d : Int) (a0 : 0 ≤ a) (a1 : a ≤ 255) (b0 : 0 ≤ b) (b1 : b ≤ 255) (c0 : 0 ≤ c) (c1 : c ≤ 255) (d0 : 0 ≤ d) (d1 : d ≤ 255) : Ret Tryz.prog 144 ([.lst .no 1 [.int .u8 a, .int .u8 b, .int .u8 c, .int .u8 d]]) (.int .i64 (signed4 a b c d)) := by
 exact (o144 (d := .int .i64 (IntKind.i64.wrap (↑(BitVec.toNat (BitVec.ofInt (64 : Nat) (IntKind.i64.wrap (IntKind.i64.wrap (↑(BitVec.toNat (BitVec.ofInt (64 : Nat) (IntKind.i64.wrap (IntKind.i64.wrap (↑(BitVec.toNat (BitVec.ofInt (64 : Nat) (IntKind.i64.wrap (IntKind.i64.wrap (IntKind.wrap IntKind.i8 d) * 256)) ||| BitVec.ofInt (64 : Nat) (IntKind.wrap IntKind.i64 c))) : Int) * 256)) ||| BitVec.ofInt (64 : Nat) (IntKind.wrap IntKind.i64 b))) : Int) * 256)) ||| BitVec.ofInt (64 : Nat) (IntKind.wrap IntKind.i64 a))) : Int))) [tT, tF, tT, .get ([.int .u8 a, .int .u8 b, .int .u8 c, .int .u8 d]) 3 (.int .u8 d) rfl, .go 64, tT, tT, .get ([.int .u8 a, .int .u8 b, .int .u8 c, .int .u8 d]) 2 (.int .u8 c) rfl, tT, tT, .get ([.int .u8 a, .int .u8 b, .int .u8 c, .int .u8 d]) 1 (.int .u8 b) rfl, tT, tT, .get ([.int .u8 a, .int .u8 b, .int .u8 c, .int .u8 d]) 0 (.int .u8 a) rfl, tF] (by kernel_rfl)).to (by simp only [wk, D.int.injEq, true_and, w_i8]; rw [show IntKind.i64.wrap ((d + 128) % 256 - 128) = (d + 128) % 256 - 128 by rw [w_i64]; omega, orb64i (x := (d + 128) % 256 - 128) (y := c) (by omega) (by omega) (by omega) (by omega), orb64i (x := ((d + 128) % 256 - 128) * 256 + c) (y := b) (by omega) (by omega) (by omega) (by omega), orb64i (x := (((d + 128) % 256 - 128) * 256 + c) * 256 + b) (y := a) (by omega) (by omega) (by omega) (by omega)]; simp only [signed4]; omega)
theorem pick_ok (b : List Int) (i : Int) (hi : 0 ≤ i) : Ret Tryz.prog 111 ([.lst .no 1 (bD b), .int .i64 i]) (.int .u8 (pkM b i.toNat)) := by
 rcases bft (decide ((↑(List.length (bD b)) : Int) ≤ i)) with h0 | h0
 ·exact (o111 (d := .int .u8 0) [tC h0] (by kernel_rfl)).to (by simp only [wk, D.int.injEq, true_and]; first | done | (symm; apply pk_short; simp only [decide_eq_true_eq] at *; omega))
 exact (o111 (d := .int .u8 (pkM b (Int.toNat i))) [tC h0, tC (v := true) (leL 0 (decide_eq_false (Int.not_lt.2 hi))), .get _ _ _ (@get_bD b i hi (by (simp only [sl2] at *; omega)))] (by kernel_rfl)).to (by simp only [wk, D.int.injEq, true_and]; first | done | (symm; apply pk_short; simp only [decide_eq_true_eq] at *; omega))
theorem tailS_ok (b : List Int) (i : Int) (hi : 0 ≤ i) (h6 : i ≤ 6) (hs : ((bD b).length : Int) < i + 4) : Ret Tryz.prog 114 ([.lst .no 1 (bD b), .int .i64 i]) (.int .i64 0) := by
 exact (o114 (d := .int .i64 0) [tC (by (simp only [sl2] at *; omega) : (decide ((↑(List.length (bD b)) : Int) < IntKind.i64.wrap (i + 4))) = true)] (by kernel_rfl)).to (by simp [wk])
theorem rrT_ok (v : Int) (v0 : 0 ≤ v) (v1 : v ≤ 255) (hq : rexQ v = true) : Ret Tryz.prog 112 ([.int .u8 v]) (.tup [.bool (decide (v / 8 % 2 = 1)), .int .i8 (v / 4 % 2 * 8), .int .i8 (v % 2 * 8), .bool true]) := by
 by_cases h0 : Int.fdiv v 16 = 4
 ·let E1 : EL := (List.replicate 3 (tC (eF (nt (eqI 4 true h0)))) ++ [tC (nt (eqI 4 true h0))])
  by_cases h1 : IntKind.wrap IntKind.u8 (↑(BitVec.toNat (BitVec.ofInt (8 : Nat) v &&& BitVec.ofInt (8 : Nat) 2)) : Int) = 0
  ·exact (o112 (d := .tup [.bool (IntKind.wrap IntKind.u8 (↑(BitVec.toNat (BitVec.ofInt (8 : Nat) v &&& BitVec.ofInt (8 : Nat) 8)) : Int) != 0), .int .i8 (IntKind.wrap IntKind.i8 (IntKind.wrap IntKind.u8 (↑(BitVec.toNat (BitVec.ofInt (8 : Nat) (IntKind.wrap IntKind.u8 (v * 2)) &&& BitVec.ofInt (8 : Nat) 8)) : Int))), .int .i8 (IntKind.wrap IntKind.i8 (IntKind.wrap IntKind.u8 (↑(BitVec.toNat (BitVec.ofInt (8 : Nat) (IntKind.wrap IntKind.u8 (v * 8)) &&& BitVec.ofInt (8 : Nat) 8)) : Int))), .bool true]) (E1 ++ [tC (nt (eqI 0 true h1))]) (by kernel_rfl)).to (by clear E1; simp only [wk, wkL, D.int.injEq, D.bool.injEq, true_and, and_true]; obtain ⟨n, rfl⟩ := fin256 v0 v1; clear v0 v1; revert n; decide +kernel)
  exact (o112 (d := .tup [.bool false, .int .i8 0, .int .i8 0, .bool false]) (E1 ++ [tC (nt (neOf h1))]) (by kernel_rfl)).to (by clear E1; simp only [wk, wkL, D.int.injEq, D.bool.injEq, true_and, and_true]; obtain ⟨n, rfl⟩ := fin256 v0 v1; clear v0 v1; revert n; decide +kernel)
 exact (o112 (d := .tup [.bool false, .int .i8 0, .int .i8 0, .bool false]) (List.replicate 3 (tC (eF (nt (neOf h0)))) ++ [tC (nt (neOf h0)), tT]) (by kernel_rfl)).to (by simp only [wk, wkL, D.int.injEq, D.bool.injEq, true_and, and_true]; obtain ⟨n, rfl⟩ := fin256 v0 v1; clear v0 v1; revert n; decide +kernel)
theorem rrF_ok (v : Int) (v0 : 0 ≤ v) (v1 : v ≤ 255) (hq : rexQ v = false) : Ret Tryz.prog 112 ([.int .u8 v]) (.tup [.bool false, .int .i8 0, .int .i8 0, .bool false]) := by
 by_cases h0 : Int.fdiv v 16 = 4
 ·let E1 : EL := (List.replicate 3 (tC (eF (nt (eqI 4 true h0)))) ++ [tC (nt (eqI 4 true h0))])
  by_cases h1 : IntKind.wrap IntKind.u8 (↑(BitVec.toNat (BitVec.ofInt (8 : Nat) v &&& BitVec.ofInt (8 : Nat) 2)) : Int) = 0
  ·exact (o112 (d := .tup [.bool (IntKind.wrap IntKind.u8 (↑(BitVec.toNat (BitVec.ofInt (8 : Nat) v &&& BitVec.ofInt (8 : Nat) 8)) : Int) != 0), .int .i8 (IntKind.wrap IntKind.i8 (IntKind.wrap IntKind.u8 (↑(BitVec.toNat (BitVec.ofInt (8 : Nat) (IntKind.wrap IntKind.u8 (v * 2)) &&& BitVec.ofInt (8 : Nat) 8)) : Int))), .int .i8 (IntKind.wrap IntKind.i8 (IntKind.wrap IntKind.u8 (↑(BitVec.toNat (BitVec.ofInt (8 : Nat) (IntKind.wrap IntKind.u8 (v * 8)) &&& BitVec.ofInt (8 : Nat) 8)) : Int))), .bool true]) (E1 ++ [tC (nt (eqI 0 true h1))]) (by kernel_rfl)).to (by clear E1; first | (simp [wk, wkL]; done) | (simp only [wk, wkL, D.int.injEq, D.bool.injEq, true_and, and_true]; obtain ⟨n, rfl⟩ := fin256 v0 v1; clear v0 v1; revert n; decide +kernel))
  exact (o112 (d := .tup [.bool false, .int .i8 0, .int .i8 0, .bool false]) (E1 ++ [tC (nt (neOf h1))]) (by kernel_rfl)).to (by clear E1; first | (simp [wk, wkL]; done) | (simp only [wk, wkL, D.int.injEq, D.bool.injEq, true_and, and_true]; obtain ⟨n, rfl⟩ := fin256 v0 v1; clear v0 v1; revert n; decide +kernel))
 exact (o112 (d := .tup [.bool false, .int .i8 0, .int .i8 0, .bool false]) (List.replicate 3 (tC (eF (nt (neOf h0)))) ++ [tC (nt (neOf h0)), tT]) (by kernel_rfl)).to (by first | (simp [wk, wkL]; done) | (simp only [wk, wkL, D.int.injEq, D.bool.injEq, true_and, and_true]; obtain ⟨n, rfl⟩ := fin256 v0 v1; clear v0 v1; revert n; decide +kernel))
theorem tail0_ok (a b c d : Int) (t : List Int) (a0 : 0 ≤ a) (a1 : a ≤ 255) (b0 : 0 ≤ b) (b1 : b ≤ 255) (c0 : 0 ≤ c) (c1 : c ≤ 255) (d0 : 0 ≤ d) (d1 : d ≤ 255) : Ret Tryz.prog 114 ([.lst .no 1 (.int .u8 a :: .int .u8 b :: .int .u8 c :: .int .u8 d :: bD t), .int .i64 0]) (.int .i64 (signed4 a b c d)) := by
 have c0 := @getF_ok a b c d a0 a1 b0 b1 c0 c1 d0 d1
 exact (o114 (d := .int .i64 (IntKind.i64.wrap (IntKind.wrap IntKind.i32 (a + (256 : Int) * b + (65536 : Int) * c + (16777216 : Int) * d)))) [tF, .tst (decide ((0 : Int) ≤ (0 : Int) ∧ (0 : Int) ≤ IntKind.i64.wrap ((0 : Int) + (4 : Int)) ∧ IntKind.i64.wrap ((0 : Int) + (4 : Int)) ≤ (↑(List.length (.int .u8 a :: .int .u8 b :: .int .u8 c :: .int .u8 d :: bD t)) : Int))) true (by ((try simp only [List.length_cons, len_bD, sl2] at *); omega)), .ret _ _ _ c0] (by kernel_rfl)).to (by simp only [wk, D.int.injEq, true_and, w_i32, w_i64, signed4]; omega)
theorem tail1_ok (y0 a b c d : Int) (t : List Int) (a0 : 0 ≤ a) (a1 : a ≤ 255) (b0 : 0 ≤ b) (b1 : b ≤ 255) (c0 : 0 ≤ c) (c1 : c ≤ 255) (d0 : 0 ≤ d) (d1 : d ≤ 255) : Ret Tryz.prog 114 ([.lst .no 1 (.int .u8 y0 :: .int .u8 a :: .int .u8 b :: .int .u8 c :: .int .u8 d :: bD t), .int .i64 1]) (.int .i64 (signed4 a b c d)) := by
 have c0 := @getF_ok a b c d a0 a1 b0 b1 c0 c1 d0 d1
 exact (o114 (d := .int .i64 (IntKind.i64.wrap (IntKind.wrap IntKind.i32 (a + (256 : Int) * b + (65536 : Int) * c + (16777216 : Int) * d)))) [tF, .tst (decide ((0 : Int) ≤ (1 : Int) ∧ (1 : Int) ≤ IntKind.i64.wrap ((1 : Int) + (4 : Int)) ∧ IntKind.i64.wrap ((1 : Int) + (4 : Int)) ≤ (↑(List.length (.int .u8 y0 :: .int .u8 a :: .int .u8 b :: .int .u8 c :: .int .u8 d :: bD t)) : Int))) true (by ((try simp only [List.length_cons, len_bD, sl2] at *); omega)), .ret _ _ _ c0] (by kernel_rfl)).to (by simp only [wk, D.int.injEq, true_and, w_i32, w_i64, signed4]; omega)
theorem tail5_ok (y0 y1 y2 y3 y4 a b c d : Int) (t : List Int) (a0 : 0 ≤ a) (a1 : a ≤ 255) (b0 : 0 ≤ b) (b1 : b ≤ 255) (c0 : 0 ≤ c) (c1 : c ≤ 255) (d0 : 0 ≤ d) (d1 : d ≤ 255) : Ret Tryz.prog 114 ([.lst .no 1 (.int .u8 y0 :: .int .u8 y1 :: .int .u8 y2 :: .int .u8 y3 :: .int .u8 y4 :: .int .u8 a :: .int .u8 b :: .int .u8 c :: .int .u8 d :: bD t), .int .i64 5]) (.int .i64 (signed4 a b c d)) := by
 have c0 := @getF_ok a b c d a0 a1 b0 b1 c0 c1 d0 d1
 exact (o114 (d := .int .i64 (IntKind.i64.wrap (IntKind.wrap IntKind.i32 (a + (256 : Int) * b + (65536 : Int) * c + (16777216 : Int) * d)))) [tF, .tst (decide ((0 : Int) ≤ (5 : Int) ∧ (5 : Int) ≤ IntKind.i64.wrap ((5 : Int) + (4 : Int)) ∧ IntKind.i64.wrap ((5 : Int) + (4 : Int)) ≤ (↑(List.length (.int .u8 y0 :: .int .u8 y1 :: .int .u8 y2 :: .int .u8 y3 :: .int .u8 y4 :: .int .u8 a :: .int .u8 b :: .int .u8 c :: .int .u8 d :: bD t)) : Int))) true (by ((try simp only [List.length_cons, len_bD, sl2] at *); omega)), .ret _ _ _ c0] (by kernel_rfl)).to (by simp only [wk, D.int.injEq, true_and, w_i32, w_i64, signed4]; omega)
theorem tail6_ok (y0 y1 y2 y3 y4 y5 a b c d : Int) (t : List Int) (a0 : 0 ≤ a) (a1 : a ≤ 255) (b0 : 0 ≤ b) (b1 : b ≤ 255) (c0 : 0 ≤ c) (c1 : c ≤ 255) (d0 : 0 ≤ d) (d1 : d ≤ 255) : Ret Tryz.prog 114 ([.lst .no 1 (.int .u8 y0 :: .int .u8 y1 :: .int .u8 y2 :: .int .u8 y3 :: .int .u8 y4 :: .int .u8 y5 :: .int .u8 a :: .int .u8 b :: .int .u8 c :: .int .u8 d :: bD t), .int .i64 6]) (.int .i64 (signed4 a b c d)) := by
 have c0 := @getF_ok a b c d a0 a1 b0 b1 c0 c1 d0 d1
 exact (o114 (d := .int .i64 (IntKind.i64.wrap (IntKind.wrap IntKind.i32 (a + (256 : Int) * b + (65536 : Int) * c + (16777216 : Int) * d)))) [tF, .tst (decide ((0 : Int) ≤ (6 : Int) ∧ (6 : Int) ≤ IntKind.i64.wrap ((6 : Int) + (4 : Int)) ∧ IntKind.i64.wrap ((6 : Int) + (4 : Int)) ≤ (↑(List.length (.int .u8 y0 :: .int .u8 y1 :: .int .u8 y2 :: .int .u8 y3 :: .int .u8 y4 :: .int .u8 y5 :: .int .u8 a :: .int .u8 b :: .int .u8 c :: .int .u8 d :: bD t)) : Int))) true (by ((try simp only [List.length_cons, len_bD, sl2] at *); omega)), .ret _ _ _ c0] (by kernel_rfl)).to (by simp only [wk, D.int.injEq, true_and, w_i32, w_i64, signed4]; omega)
theorem mr_nil_ok  : Ret Tryz.prog 113 ([.lst .no 1 []]) (.tup [.int .i8 0, .int .i8 0, .int .i64 0, .bool false, .int .i64 0, .int .i64 30]) := by
 exact (o113 (d := .tup [.int .i8 0, .int .i8 0, .int .i64 0, .bool false, .int .i64 0, .int .i64 30]) [tT] (by kernel_rfl)).to (by simp [wk, wkL])
theorem mr_reg_ok (v : Int) (v0 : 0 ≤ v) (v1 : v ≤ 255) (t : List Int) (h3 : v / 64 = 3) : Ret Tryz.prog 113 ([.lst .no 1 (.int .u8 v :: bD t)]) (.tup [.int .i8 (v / 8 % 8), .int .i8 (v % 8), .int .i64 (0), .bool false, .int .i64 1, .int .i64 0]) := by
 exact (o113 (d := .tup [.int .i8 (IntKind.wrap IntKind.i8 (IntKind.wrap IntKind.u8 (↑(BitVec.toNat (BitVec.ofInt (8 : Nat) (Int.fdiv v 8) &&& BitVec.ofInt (8 : Nat) 7)) : Int))), .int .i8 (IntKind.wrap IntKind.i8 (IntKind.wrap IntKind.u8 (↑(BitVec.toNat (BitVec.ofInt (8 : Nat) v &&& BitVec.ofInt (8 : Nat) 7)) : Int))), .int .i64 0, .bool false, .int .i64 1, .int .i64 0]) ([tF] ++ List.replicate 3 (.get (.int .u8 v :: bD t) 0 (.int .u8 v) rfl) ++ [tC (eqI 3 true (eq_of_beq (@top3_t v h3)))]) (by kernel_rfl)).to (by simp only [wk, wkL, D.int.injEq, D.bool.injEq, true_and, and_true, low8, mid8 v0 v1, and_self]; first | done | omega)
theorem mr_mem5_ok (v : Int) (v0 : 0 ≤ v) (v1 : v ≤ 255) (a b c d : Int) (t : List Int) (a0 : 0 ≤ a) (a1 : a ≤ 255) (b0 : 0 ≤ b) (b1 : b ≤ 255) (c0 : 0 ≤ c) (c1 : c ≤ 255) (d0 : 0 ≤ d) (d1 : d ≤ 255) (h2 : v / 64 = 2) (hr : ¬ v % 8 = 4) : Ret Tryz.prog 113 ([.lst .no 1 (.int .u8 v :: .int .u8 a :: .int .u8 b :: .int .u8 c :: .int .u8 d :: bD t)]) (.tup [.int .i8 (v / 8 % 8), .int .i8 (v % 8), .int .i64 (signed4 a b c d), .bool true, .int .i64 5, .int .i64 0]) := by
 have c0 := @signedF_ok a b c d a0 a1 b0 b1 c0 c1 d0 d1
 generalize g2 : signed4 a b c d = r1 at c0
 exact (o113 (d := .tup [.int .i8 (IntKind.wrap IntKind.i8 (IntKind.wrap IntKind.u8 (↑(BitVec.toNat (BitVec.ofInt (8 : Nat) (Int.fdiv v (8 : Int)) &&& BitVec.ofInt (8 : Nat) (7 : Int))) : Int))), .int .i8 (IntKind.wrap IntKind.i8 (IntKind.wrap IntKind.u8 (↑(BitVec.toNat (BitVec.ofInt (8 : Nat) v &&& BitVec.ofInt (8 : Nat) (7 : Int))) : Int))), .int .i64 r1, .bool true, .int .i64 5, .int .i64 0]) ([tF] ++ List.replicate 3 (.get (.int .u8 v :: .int .u8 a :: .int .u8 b :: .int .u8 c :: .int .u8 d :: bD t) 0 (.int .u8 v) rfl) ++ [tC (@top3_f (v) h2), tC (eqI 2 true (eq_of_beq (@top2_t (v) h2))), tC (@low4_f (v) hr)] ++ List.replicate 3 (tC (eT (leL 5 (by ((try simp only [List.length_cons, List.length_nil, len_bD, sl2] at *); omega) : (decide ((↑(List.length (.int .u8 v :: .int .u8 a :: .int .u8 b :: .int .u8 c :: .int .u8 d :: bD t)) : Int) < (5 : Int))) = false)))) ++ [tF, tF, tF, tF, tC (eT (leL 5 (by ((try simp only [List.length_cons, List.length_nil, len_bD, sl2] at *); omega) : (decide ((↑(List.length (.int .u8 v :: .int .u8 a :: .int .u8 b :: .int .u8 c :: .int .u8 d :: bD t)) : Int) < (5 : Int))) = false))), tT, tC (leL 5 (by ((try simp only [List.length_cons, List.length_nil, len_bD, sl2] at *); omega) : (decide ((↑(List.length (.int .u8 v :: .int .u8 a :: .int .u8 b :: .int .u8 c :: .int .u8 d :: bD t)) : Int) < (5 : Int))) = false)), tT, .tst (decide ((0 : Int) ≤ (1 : Int) ∧ (1 : Int) ≤ IntKind.i64.wrap ((1 : Int) + (4 : Int)) ∧ IntKind.i64.wrap ((1 : Int) + (4 : Int)) ≤ (↑(List.length (.int .u8 v :: .int .u8 a :: .int .u8 b :: .int .u8 c :: .int .u8 d :: bD t)) : Int))) true (by ((try simp only [List.length_cons, List.length_nil, len_bD, sl2] at *); omega)), .ret _ _ _ c0]) (by kernel_rfl)).to (by simp only [wk, wkL, D.int.injEq, D.bool.injEq, true_and, and_true, low8, mid8 v0 v1, and_self]; first | done | omega)
theorem mr_mem6_ok (v : Int) (v0 : 0 ≤ v) (v1 : v ≤ 255) (a b c d : Int) (t : List Int) (a0 : 0 ≤ a) (a1 : a ≤ 255) (b0 : 0 ≤ b) (b1 : b ≤ 255) (c0 : 0 ≤ c) (c1 : c ≤ 255) (d0 : 0 ≤ d) (d1 : d ≤ 255) (h2 : v / 64 = 2) (hr : v % 8 = 4) : Ret Tryz.prog 113 ([.lst .no 1 (.int .u8 v :: .int .u8 36 :: .int .u8 a :: .int .u8 b :: .int .u8 c :: .int .u8 d :: bD t)]) (.tup [.int .i8 (v / 8 % 8), .int .i8 (v % 8), .int .i64 (signed4 a b c d), .bool true, .int .i64 6, .int .i64 0]) := by
 have c0 := @signedF_ok a b c d a0 a1 b0 b1 c0 c1 d0 d1
 generalize g2 : signed4 a b c d = r1 at c0
 exact (o113 (d := .tup [.int .i8 (IntKind.wrap IntKind.i8 (IntKind.wrap IntKind.u8 (↑(BitVec.toNat (BitVec.ofInt (8 : Nat) (Int.fdiv v (8 : Int)) &&& BitVec.ofInt (8 : Nat) (7 : Int))) : Int))), .int .i8 (IntKind.wrap IntKind.i8 (IntKind.wrap IntKind.u8 (↑(BitVec.toNat (BitVec.ofInt (8 : Nat) v &&& BitVec.ofInt (8 : Nat) (7 : Int))) : Int))), .int .i64 r1, .bool true, .int .i64 6, .int .i64 0]) ([tF] ++ List.replicate 3 (.get (.int .u8 v :: .int .u8 36 :: .int .u8 a :: .int .u8 b :: .int .u8 c :: .int .u8 d :: bD t) 0 (.int .u8 v) rfl) ++ [tC (@top3_f (v) h2), tC (eqI 2 true (eq_of_beq (@top2_t (v) h2))), tC (eqI 4 true (eq_of_beq (@low4_t (v) hr)))] ++ List.replicate 3 (tC (eT (leL 6 (by ((try simp only [List.length_cons, List.length_nil, len_bD, sl2] at *); omega) : (decide ((↑(List.length (.int .u8 v :: .int .u8 36 :: .int .u8 a :: .int .u8 b :: .int .u8 c :: .int .u8 d :: bD t)) : Int) < (6 : Int))) = false)))) ++ [tT, tT, .get (.int .u8 v :: .int .u8 36 :: .int .u8 a :: .int .u8 b :: .int .u8 c :: .int .u8 d :: bD t) 1 (.int .u8 36) rfl, tT, tT, tC (eT (leL 6 (by ((try simp only [List.length_cons, List.length_nil, len_bD, sl2] at *); omega) : (decide ((↑(List.length (.int .u8 v :: .int .u8 36 :: .int .u8 a :: .int .u8 b :: .int .u8 c :: .int .u8 d :: bD t)) : Int) < (6 : Int))) = false))), tF, tC (leL 6 (by ((try simp only [List.length_cons, List.length_nil, len_bD, sl2] at *); omega) : (decide ((↑(List.length (.int .u8 v :: .int .u8 36 :: .int .u8 a :: .int .u8 b :: .int .u8 c :: .int .u8 d :: bD t)) : Int) < (6 : Int))) = false)), tT, .tst (decide ((0 : Int) ≤ (2 : Int) ∧ (2 : Int) ≤ IntKind.i64.wrap ((2 : Int) + (4 : Int)) ∧ IntKind.i64.wrap ((2 : Int) + (4 : Int)) ≤ (↑(List.length (.int .u8 v :: .int .u8 36 :: .int .u8 a :: .int .u8 b :: .int .u8 c :: .int .u8 d :: bD t)) : Int))) true (by ((try simp only [List.length_cons, List.length_nil, len_bD, sl2] at *); omega)), .ret _ _ _ c0]) (by kernel_rfl)).to (by simp only [wk, wkL, D.int.injEq, D.bool.injEq, true_and, and_true, low8, mid8 v0 v1, and_self]; first | done | omega)
theorem mr_low_ok (v : Int) (v0 : 0 ≤ v) (v1 : v ≤ 255) (t : List Int) (hl : v / 64 < 2) : Ret Tryz.prog 113 ([.lst .no 1 (.int .u8 v :: bD t)]) (.tup [.int .i8 0, .int .i8 0, .int .i64 0, .bool false, .int .i64 0, .int .i64 30]) := by
 exact (o113 (d := .tup [.int .i8 0, .int .i8 0, .int .i64 0, .bool false, .int .i64 0, .int .i64 30]) ([tF] ++ List.replicate 3 (.get (.int .u8 v :: bD t) 0 (.int .u8 v) rfl) ++ [tC (@top3_f' v hl), tC (@top2_f v hl)]) (by kernel_rfl)).to (by simp [wk, wkL])
theorem mr_sh5_ok (v : Int) (v0 : 0 ≤ v) (v1 : v ≤ 255) (t : List Int) (h2 : v / 64 = 2) (hr : ¬ v % 8 = 4) (hs : t.length < 4) : Ret Tryz.prog 113 ([.lst .no 1 (.int .u8 v :: bD t)]) (.tup [.int .i8 0, .int .i8 0, .int .i64 0, .bool false, .int .i64 0, .int .i64 30]) := by
 exact (o113 (d := .tup [.int .i8 0, .int .i8 0, .int .i64 0, .bool false, .int .i64 0, .int .i64 30]) ([tF] ++ List.replicate 3 (.get (.int .u8 v :: bD t) 0 (.int .u8 v) rfl) ++ [tC (@top3_f v h2), tC (eqI 2 true (eq_of_beq (@top2_t v h2))), tC (@low4_f v hr)] ++ List.replicate 4 (tC (eT (leL 5 (by ((try simp only [List.length_cons, List.length_nil, len_bD, sl2] at *); omega) : (decide ((↑(List.length (.int .u8 v :: bD t)) : Int) < 5)) = true)))) ++ [tC (leL 5 (by ((try simp only [List.length_cons, List.length_nil, len_bD, sl2] at *); omega) : (decide ((↑(List.length (.int .u8 v :: bD t)) : Int) < 5)) = true)), tF]) (by kernel_rfl)).to (by simp [wk, wkL])
theorem mr_sh6_ok (v : Int) (v0 : 0 ≤ v) (v1 : v ≤ 255) (t : List Int) (h2 : v / 64 = 2) (hr : v % 8 = 4) (hs : t.length < 5) : Ret Tryz.prog 113 ([.lst .no 1 (.int .u8 v :: bD t)]) (.tup [.int .i8 0, .int .i8 0, .int .i64 0, .bool false, .int .i64 0, .int .i64 30]) := by
 exact (o113 (d := .tup [.int .i8 0, .int .i8 0, .int .i64 0, .bool false, .int .i64 0, .int .i64 30]) ([tF] ++ List.replicate 3 (.get (.int .u8 v :: bD t) 0 (.int .u8 v) rfl) ++ [tC (@top3_f v h2), tC (eqI 2 true (eq_of_beq (@top2_t v h2))), tC (eqI 4 true (eq_of_beq (@low4_t v hr)))] ++ List.replicate 4 (tC (eT (leL 6 (by ((try simp only [List.length_cons, List.length_nil, len_bD, sl2] at *); omega) : (decide ((↑(List.length (.int .u8 v :: bD t)) : Int) < 6)) = true)))) ++ [tC (leL 6 (by ((try simp only [List.length_cons, List.length_nil, len_bD, sl2] at *); omega) : (decide ((↑(List.length (.int .u8 v :: bD t)) : Int) < 6)) = true)), tF]) (by kernel_rfl)).to (by simp [wk, wkL])
theorem mr_sib_ok (v : Int) (v0 : 0 ≤ v) (v1 : v ≤ 255) (s : Int) (t : List Int) (h2 : v / 64 = 2) (hr : v % 8 = 4) (hs : ¬ s = 36) : Ret Tryz.prog 113 ([.lst .no 1 (.int .u8 v :: .int .u8 s :: bD t)]) (.tup [.int .i8 0, .int .i8 0, .int .i64 0, .bool false, .int .i64 0, .int .i64 30]) := by
 let E1 : EL := ([tF] ++ List.replicate 3 (.get (.int .u8 v :: .int .u8 s :: bD t) 0 (.int .u8 v) rfl) ++ [tC (@top3_f v h2), tC (eqI 2 true (eq_of_beq (@top2_t v h2))), tC (eqI 4 true (eq_of_beq (@low4_t v hr)))])
 rcases bft (decide ((↑(List.length (.int .u8 v :: .int .u8 s :: bD t)) : Int) < 6)) with h0 | h0
 ·exact (o113 (d := .tup [.int .i8 0, .int .i8 0, .int .i64 0, .bool false, .int .i64 0, .int .i64 30]) (E1 ++ List.replicate 4 (tC (eT (leL 6 h0))) ++ [tC (leL 6 h0), tF]) (by kernel_rfl)).to (by clear E1; simp [wk, wkL])
 exact (o113 (d := .tup [.int .i8 0, .int .i8 0, .int .i64 0, .bool false, .int .i64 0, .int .i64 30]) (E1 ++ List.replicate 3 (tC (eT (leL 6 h0))) ++ [tT, tT, .get (.int .u8 v :: .int .u8 s :: bD t) 1 (.int .u8 s) rfl, tT, tT, tC (eT (leL 6 h0)), tF, tC (leL 6 h0), tC (by ((try simp only [List.length_cons, List.length_nil, len_bD, sl2] at *); omega) : (s == 36) = false)]) (by kernel_rfl)).to (by clear E1; simp [wk, wkL])
theorem four_or_less (t : List Int) : t.length < 4 ∨ ∃ a b c d r, t = a :: b :: c :: d :: r := by
 match t with
 | [] => exact .inl (by simp)
 | [_] => exact .inl (by simp)
 | [_, _] => exact .inl (by simp)
 | [_, _, _] => exact .inl (by simp)
 | a :: b :: c :: d :: r => exact .inr ⟨a, b, c, d, r, rfl⟩
theorem mr_ok (v : List Int) (hv : isB v) : Ret Tryz.prog 113 [.lst .no 1 (bD v)] (.tup [.int .i8 (mrR v), .int .i8 (mrB v), .int .i64 (mrD v), .bool (decide (2 ≤ mrN v)), .int .i64 (mrN v : Int), .int .i64 (mrE v)]) := by
 match v, hv with
 | [], _ => exact mr_nil_ok.cast rfl rfl
 | v :: t, hv =>
  obtain ⟨⟨v0, v1⟩, ht⟩ := isB_cons.1 hv
  have e : bD (v :: t) = .int .u8 v :: bD t := rfl
  by_cases h3 : v / 64 = 3
  ·have hn : mrN (v :: t) = 1 := by simp [mrN, h3]
   refine (mr_reg_ok v v0 v1 t h3).cast rfl ?_
   simp [mrR, mrB, mrD, mrE, hn, hd]
  ·by_cases h2 : v / 64 = 2
   ·by_cases hr : v % 8 = 4
    ·match t, ht with
     | [], ht =>
      have hn : mrN [v] = 0 := by simp [mrN, h2, hr]
      refine (mr_sh6_ok v v0 v1 [] h2 hr (by simp)).cast rfl ?_
      simp [mrR, mrB, mrD, mrE, hn]
     | s :: t, ht =>
      by_cases hs : s = 36
      ·subst hs
       rcases four_or_less t with hl | ⟨a, b, c, d, r, rfl⟩
       ·have hn : mrN (v :: 36 :: t) = 0 := by simp [mrN, h2, hr, hd]; omega
        refine (mr_sh6_ok v v0 v1 (36 :: t) h2 hr (by simp; omega)).cast rfl ?_
        simp [mrR, mrB, mrD, mrE, hn]
       ·have hn : mrN (v :: 36 :: a :: b :: c :: d :: r) = 6 := by simp [mrN, h2, hr, hd]
        simp only [isB_cons] at ht
        obtain ⟨-, ⟨a0, a1⟩, ⟨b0, b1⟩, ⟨c0, c1⟩, ⟨d0, d1⟩, -⟩ := ht
        refine (mr_mem6_ok v v0 v1 a b c d r a0 a1 b0 b1 c0 c1 d0 d1 h2 hr).cast rfl ?_
        simp [mrR, mrB, mrD, mrE, hn, hd, rd4]
      ·have hn : mrN (v :: s :: t) = 0 := by simp [mrN, h2, hr, hd, hs]
       refine (mr_sib_ok v v0 v1 s t h2 hr hs).cast rfl ?_
       simp [mrR, mrB, mrD, mrE, hn]
    ·rcases four_or_less t with hl | ⟨a, b, c, d, r, rfl⟩
     ·have hn : mrN (v :: t) = 0 := by simp [mrN, h2, hr]; omega
      refine (mr_sh5_ok v v0 v1 t h2 hr hl).cast rfl ?_
      simp [mrR, mrB, mrD, mrE, hn]
     ·have hn : mrN (v :: a :: b :: c :: d :: r) = 5 := by simp [mrN, h2, hr]
      simp only [isB_cons] at ht
      obtain ⟨⟨a0, a1⟩, ⟨b0, b1⟩, ⟨c0, c1⟩, ⟨d0, d1⟩, -⟩ := ht
      refine (mr_mem5_ok v v0 v1 a b c d r a0 a1 b0 b1 c0 c1 d0 d1 h2 hr).cast rfl ?_
      simp [mrR, mrB, mrD, mrE, hn, hd, rd4]
   ·have hn : mrN (v :: t) = 0 := by simp [mrN, h2, h3]
    refine (mr_low_ok v v0 v1 t (by omega)).cast rfl ?_
    simp [mrR, mrB, mrD, mrE, hn]
theorem tail_ok (b : List Int) (hb : isB b) (i : Nat) (hi : i = 0 ∨ i = 1 ∨ i = 5 ∨ i = 6) : Ret Tryz.prog 114 [.lst .no 1 (bD b), .int .i64 (i : Int)] (.int .i64 (tlM b i)) := by
 by_cases hs : b.length < i + 4
 ·refine (tailS_ok b i (by omega) (by omega) (by rw [len_bD]; omega)).cast rfl ?_
  simp [tlM, hs]
 ·have hq : ∀ {x : D}, tlM b i = rd4 (b.drop i) := fun {_} => by simp [tlM, hs]
  rw [hq (x := .undef)]
  rcases hi with rfl | rfl | rfl | rfl
  ·match b, hb, hs with
   | a :: b :: c :: d :: t, hb, _ =>
    simp only [isB_cons] at hb
    obtain ⟨⟨a0, a1⟩, ⟨b0, b1⟩, ⟨c0, c1⟩, ⟨d0, d1⟩, -⟩ := hb
    exact (tail0_ok a b c d t a0 a1 b0 b1 c0 c1 d0 d1).cast rfl rfl
   | [], _, hs | [_], _, hs | [_, _], _, hs | [_, _, _], _, hs => simp at hs
  ·match b, hb, hs with
   | y :: a :: b :: c :: d :: t, hb, _ =>
    simp only [isB_cons] at hb
    obtain ⟨-, ⟨a0, a1⟩, ⟨b0, b1⟩, ⟨c0, c1⟩, ⟨d0, d1⟩, -⟩ := hb
    exact (tail1_ok y a b c d t a0 a1 b0 b1 c0 c1 d0 d1).cast rfl rfl
   | [], _, hs | [_], _, hs | [_, _], _, hs | [_, _, _], _, hs | [_, _, _, _], _, hs => simp at hs
  ·match b, hb, hs with
   | y0 :: y1 :: y2 :: y3 :: y4 :: a :: b :: c :: d :: t, hb, _ =>
    simp only [isB_cons] at hb
    obtain ⟨-, -, -, -, -, ⟨a0, a1⟩, ⟨b0, b1⟩, ⟨c0, c1⟩, ⟨d0, d1⟩, -⟩ := hb
    exact (tail5_ok y0 y1 y2 y3 y4 a b c d t a0 a1 b0 b1 c0 c1 d0 d1).cast rfl rfl
   | [], _, hs | [_], _, hs | [_, _], _, hs | [_, _, _], _, hs | [_, _, _, _], _, hs | [_, _, _, _, _], _, hs | [_, _, _, _, _, _], _, hs | [_, _, _, _, _, _, _], _, hs | [_, _, _, _, _, _, _, _], _, hs => simp at hs
  ·match b, hb, hs with
   | y0 :: y1 :: y2 :: y3 :: y4 :: y5 :: a :: b :: c :: d :: t, hb, _ =>
    simp only [isB_cons] at hb
    obtain ⟨-, -, -, -, -, -, ⟨a0, a1⟩, ⟨b0, b1⟩, ⟨c0, c1⟩, ⟨d0, d1⟩, -⟩ := hb
    exact (tail6_ok y0 y1 y2 y3 y4 y5 a b c d t a0 a1 b0 b1 c0 c1 d0 d1).cast rfl rfl
   | [], _, hs | [_], _, hs | [_, _], _, hs | [_, _, _], _, hs | [_, _, _, _], _, hs | [_, _, _, _, _], _, hs | [_, _, _, _, _, _], _, hs | [_, _, _, _, _, _, _], _, hs | [_, _, _, _, _, _, _, _], _, hs | [_, _, _, _, _, _, _, _, _], _, hs => simp at hs
theorem mrN_cases (v : List Int) : mrN v = 0 ∨ mrN v = 1 ∨ mrN v = 5 ∨ mrN v = 6 := by
 unfold mrN
 split
 ·exact .inl rfl
 ·split
  ·exact .inr (.inl rfl)
  ·split
   ·split <;> split <;> simp
   ·exact .inl rfl
theorem tail_mr_ok (v : List Int) (hv : isB v) : Ret Tryz.prog 114 [.lst .no 1 (bD v), .int .i64 (mrN v : Int)] (.int .i64 (tlM v (mrN v))) := tail_ok v hv _ (mrN_cases v)
theorem tail_0_ok (v : List Int) (hv : isB v) : Ret Tryz.prog 114 [.lst .no 1 (bD v), .int .i64 0] (.int .i64 (tlM v 0)) := tail_ok v hv 0 (.inl rfl)
theorem pick_mr_ok (v : List Int) : Ret Tryz.prog 111 [.lst .no 1 (bD v), .int .i64 (mrN v : Int)] (.int .u8 (pkM v (mrN v))) := (pick_ok v _ (by omega)).cast rfl (by simp)
theorem pick_0_ok (v : List Int) : Ret Tryz.prog 111 [.lst .no 1 (bD v), .int .i64 0] (.int .u8 (pkM v 0)) := pick_ok v 0 (by omega)
theorem pick_c_ok (x : Int) (l : List D) : Ret Tryz.prog 111 ([.lst .no 1 (.int .u8 x :: l), .int .i64 0]) (.int .u8 x) := by
 exact (o111 (d := .int .u8 x) [tF, tT, .get (.int .u8 x :: l) 0 (.int .u8 x) rfl] (by kernel_rfl)).to (by simp [wk])
theorem pick_n_ok  : Ret Tryz.prog 111 ([.lst .no 1 [], .int .i64 0]) (.int .u8 0) := by
 exact (o111 (d := .int .u8 0) [tT] (by kernel_rfl)).to (by simp [wk])
theorem pa_nxe_ok  : Ret Tryz.prog 83 ([.lst .no 1 ([])]) (.tup [rawD (parF 32 0), .bool false]) := by
 have c0 := @pick_n_ok
 have c1 := @pick_n_ok
 have c2 := @rrF_ok 0 (by decide) (by decide) (rfl : false = false)
 exact (o83 (d := .tup [.agg [.int .i8 32, .bool false, .int .u8 0, .int .i8 0, .int .i8 0, .int .i64 0, .int .i64 0, .int .i64 0, .int .i64 0, .int .i64 0, .int .i8 0], .bool false]) [.ret _ _ _ c0, tF, .ret _ _ _ c1, .ret _ _ _ c2, tF, tT] (by kernel_rfl)).to (by first | (simp [wk, wkL, rawD, parF, *]; done) | (simp only [decide_eq_true_eq, decide_eq_false_iff_not] at *; simp [wk, wkL, rawD, parF, *]))
theorem pa_nx1_ok (d : Int) (v : List Int) (hv : isB v)  : Ret Tryz.prog 83 ([.lst .no 1 (.int .u8 15 :: .int .u8 d :: bD v)]) (.tup [rawD (parRest 32 0 0 true d v), .bool true]) := by
 have c0 := @pick_c_ok 15 (.int .u8 d :: bD v)
 have c1 := @pick_c_ok 15 (.int .u8 d :: bD v)
 have c2 := @rrF_ok 15 (by first | rfl | decide) (by first | rfl | decide) (rfl : false = false)
 have c3 := @mr_ok v hv
 let E1 : EL := [.ret _ _ _ c0, tF, .ret _ _ _ c1, .ret _ _ _ c2, tF, tF, .get (.int .u8 15 :: .int .u8 d :: bD v) 0 (.int .u8 15) rfl, .tst (decide ((0 : Int) ≤ (1 : Int) ∧ (1 : Int) ≤ (↑(List.length (.int .u8 15 :: .int .u8 d :: bD v)) : Int))) true (by (first | ((try simp only [List.length_cons, List.length_nil, len_bD, sl2] at *); omega) | (simp [len_bD]; done) | (simp [len_bD]; omega) | (simp [len_bD] at *; omega))), tT, tT, tT, tT, tC (ltL 0 (by (first | ((try simp only [List.length_cons, List.length_nil, len_bD, sl2] at *); omega) | (simp [len_bD]; done) | (simp [len_bD]; omega) | (simp [len_bD] at *; omega)) : (decide ((↑(List.length (.int .u8 d :: bD v)) : Int) < (1 : Int))) = false)), .get (.int .u8 d :: bD v) 0 (.int .u8 d) rfl, .tst (decide ((0 : Int) ≤ (1 : Int) ∧ (1 : Int) ≤ (↑(List.length (List.drop (Int.toNat (1 : Int)) (.int .u8 15 :: .int .u8 d :: bD v))) : Int))) true (by (first | ((try simp only [List.length_cons, List.length_nil, len_bD, sl2] at *); omega) | (simp [len_bD]; done) | (simp [len_bD]; omega) | (simp [len_bD] at *; omega))), .ret _ _ _ c3]
 by_cases h4 : mrE v = 0
 ·have c5 := @tail_mr_ok v hv
  have c6 := @pick_mr_ok v
  have c7 := @tail_0_ok v hv
  have c8 := @pick_0_ok v
  exact (o83 (d := .tup [.agg [.int .i8 32, .bool true, .int .u8 d, .int .i8 (IntKind.wrap IntKind.i8 (↑(BitVec.toNat (BitVec.ofInt (8 : Nat) (mrR v) ||| BitVec.ofInt (8 : Nat) (0 : Int))) : Int)), .int .i8 (IntKind.wrap IntKind.i8 (↑(BitVec.toNat (BitVec.ofInt (8 : Nat) (mrB v) ||| BitVec.ofInt (8 : Nat) (0 : Int))) : Int)), .int .i64 (mrD v), .int .i64 (tlM v (mrN v)), .int .i64 (IntKind.i64.wrap (pkM v (mrN v))), .int .i64 (tlM v (0 : Nat)), .int .i64 (IntKind.i64.wrap (IntKind.wrap IntKind.i8 (pkM v (0 : Nat)))), .int .i8 0], .bool true]) (E1 ++ [tC (nt (eqI 0 true h4)), .ret _ _ _ c5, .ret _ _ _ c6, .ret _ _ _ c7, .ret _ _ _ c8]) (by kernel_rfl)).to (by clear E1; (try simp only [decide_eq_true_eq, decide_eq_false_iff_not, wk, wkL, rawD, parRest, D.int.injEq, D.bool.injEq, true_and, and_true] at *); (try rw [mrE_n' ‹¬ mrE v = 0›]); (try simp only [w_small hv, w_jump, or8r hv (Or.inl rfl), or8b hv (Or.inl rfl), or8r4 hv, or8b2 hv]); first | done | (simp [*]; done) | (simp [*, mrR, mrB, mrD, mrN, tlM, pkM, signed1]; done) | (simp [*, mrR, mrB, mrD, mrN, tlM, pkM, signed1, w_i8]; omega))
 have c9 := @tail_0_ok v hv
 have c10 := @pick_0_ok v
 have c11 := @tail_0_ok v hv
 have c12 := @pick_0_ok v
 exact (o83 (d := .tup [.agg [.int .i8 32, .bool true, .int .u8 d, .int .i8 (IntKind.wrap IntKind.i8 (↑(BitVec.toNat (BitVec.ofInt (8 : Nat) (mrR v) ||| BitVec.ofInt (8 : Nat) (0 : Int))) : Int)), .int .i8 (IntKind.wrap IntKind.i8 (↑(BitVec.toNat (BitVec.ofInt (8 : Nat) (mrB v) ||| BitVec.ofInt (8 : Nat) (0 : Int))) : Int)), .int .i64 (mrD v), .int .i64 (tlM v (0 : Nat)), .int .i64 (IntKind.i64.wrap (pkM v (0 : Nat))), .int .i64 (tlM v (0 : Nat)), .int .i64 (IntKind.i64.wrap (IntKind.wrap IntKind.i8 (pkM v (0 : Nat)))), .int .i8 0], .bool true]) (E1 ++ [tC (nt (neOf h4)), .ret _ _ _ c9, .ret _ _ _ c10, .ret _ _ _ c11, .ret _ _ _ c12]) (by kernel_rfl)).to (by clear E1; (try simp only [decide_eq_true_eq, decide_eq_false_iff_not, wk, wkL, rawD, parRest, D.int.injEq, D.bool.injEq, true_and, and_true] at *); (try rw [mrE_n' ‹¬ mrE v = 0›]); (try simp only [w_small hv, w_jump, or8r hv (Or.inl rfl), or8b hv (Or.inl rfl), or8r4 hv, or8b2 hv]); first | done | (simp [*]; done) | (simp [*, mrR, mrB, mrD, mrN, tlM, pkM, signed1]; done) | (simp [*, mrR, mrB, mrD, mrN, tlM, pkM, signed1, w_i8]; omega))
theorem pa_nx0_ok  : Ret Tryz.prog 83 ([.lst .no 1 (.int .u8 15 :: [])]) (.tup [rawD (parRest 32 0 0 false 15 []), .bool true]) := by
 have c0 := @pick_c_ok 15 ([])
 have c1 := @pick_c_ok 15 ([])
 have c2 := @rrF_ok 15 (by decide) (by decide) (rfl : false = false)
 have c3 := @mr_nil_ok
 have c4 := @pick_n_ok
 have c5 := @pick_n_ok
 exact (o83 (d := .tup [.agg [.int .i8 32, .bool false, .int .u8 15, .int .i8 0, .int .i8 0, .int .i64 0, .int .i64 0, .int .i64 0, .int .i64 0, .int .i64 0, .int .i8 0], .bool true]) [.ret _ _ _ c0, tF, .ret _ _ _ c1, .ret _ _ _ c2, tF, tF, .get ([.int .u8 15]) 0 (.int .u8 15) rfl, tT, tT, tT, tT, tT, tF, .ret _ _ _ c3, tT, .inl, tT, .ret _ _ _ c4, .inl, tT, .ret _ _ _ c5] (by kernel_rfl)).to (by (try simp only [decide_eq_true_eq, decide_eq_false_iff_not, wk, wkL, rawD, parRest, D.int.injEq, D.bool.injEq, true_and, and_true] at *); (try rw [mrE_n' ‹¬ mrE [] = 0›]); (try simp only [w_small nilB, w_jump, or8r nilB (Or.inl rfl), or8b nilB (Or.inl rfl), or8r4 nilB, or8b2 nilB]); first | done | (simp [*]; done) | (simp [*, mrR, mrB, mrD, mrN, tlM, pkM, signed1]; done) | (simp [*, mrR, mrB, mrD, mrN, tlM, pkM, signed1, w_i8]; omega))
theorem pa_nxc_ok (c : Int) (k0 : 0 ≤ c) (k1 : c ≤ 255) (hq : rexQ c = false) (h2 : ¬ c = 102) (hc : ¬ c = 15) (v : List Int) (hv : isB v)  : Ret Tryz.prog 83 ([.lst .no 1 (.int .u8 c :: bD v)]) (.tup [rawD (parRest 32 0 0 false c v), .bool true]) := by
 have c0 := @pick_c_ok c (bD v)
 have c1 := @pick_c_ok c (bD v)
 have c2 := @rrF_ok c k0 k1 hq
 have c3 := @mr_ok v hv
 let E1 : EL := ([.ret _ _ _ c0, tC (by (first | ((try simp only [List.length_cons, List.length_nil, len_bD, sl2] at *); omega) | (simp [len_bD]; done) | (simp [len_bD]; omega) | (simp [len_bD] at *; omega)) : (c == (102 : Int)) = false), .ret _ _ _ c1, .ret _ _ _ c2, tF, tF, .get (.int .u8 c :: bD v) 0 (.int .u8 c) rfl, .tst (decide ((0 : Int) ≤ (1 : Int) ∧ (1 : Int) ≤ (↑(List.length (.int .u8 c :: bD v)) : Int))) true (by (first | ((try simp only [List.length_cons, List.length_nil, len_bD, sl2] at *); omega) | (simp [len_bD]; done) | (simp [len_bD]; omega) | (simp [len_bD] at *; omega)))] ++ List.replicate 3 (tC (eT (by (first | ((try simp only [List.length_cons, List.length_nil, len_bD, sl2] at *); omega) | (simp [len_bD]; done) | (simp [len_bD]; omega) | (simp [len_bD] at *; omega)) : (c == (15 : Int)) = false))) ++ [tC (by (first | ((try simp only [List.length_cons, List.length_nil, len_bD, sl2] at *); omega) | (simp [len_bD]; done) | (simp [len_bD]; omega) | (simp [len_bD] at *; omega)) : (c == (15 : Int)) = false), tF, .ret _ _ _ c3])
 by_cases h4 : mrE v = 0
 ·have c5 := @tail_mr_ok v hv
  have c6 := @pick_mr_ok v
  have c7 := @tail_0_ok v hv
  have c8 := @pick_0_ok v
  exact (o83 (d := .tup [.agg [.int .i8 32, .bool false, .int .u8 c, .int .i8 (IntKind.wrap IntKind.i8 (↑(BitVec.toNat (BitVec.ofInt (8 : Nat) (mrR v) ||| BitVec.ofInt (8 : Nat) (0 : Int))) : Int)), .int .i8 (IntKind.wrap IntKind.i8 (↑(BitVec.toNat (BitVec.ofInt (8 : Nat) (mrB v) ||| BitVec.ofInt (8 : Nat) (0 : Int))) : Int)), .int .i64 (mrD v), .int .i64 (tlM v (mrN v)), .int .i64 (IntKind.i64.wrap (pkM v (mrN v))), .int .i64 (tlM v (0 : Nat)), .int .i64 (IntKind.i64.wrap (IntKind.wrap IntKind.i8 (pkM v (0 : Nat)))), .int .i8 0], .bool true]) (E1 ++ [tC (nt (eqI 0 true h4)), .ret _ _ _ c5, .ret _ _ _ c6, .ret _ _ _ c7, .ret _ _ _ c8]) (by kernel_rfl)).to (by clear E1; (try simp only [decide_eq_true_eq, decide_eq_false_iff_not, wk, wkL, rawD, parRest, D.int.injEq, D.bool.injEq, true_and, and_true] at *); (try rw [mrE_n' ‹¬ mrE v = 0›]); (try simp only [w_small hv, w_jump, or8r hv (Or.inl rfl), or8b hv (Or.inl rfl), or8r4 hv, or8b2 hv]); first | done | (simp [*]; done) | (simp [*, mrR, mrB, mrD, mrN, tlM, pkM, signed1]; done) | (simp [*, mrR, mrB, mrD, mrN, tlM, pkM, signed1, w_i8]; omega))
 have c9 := @tail_0_ok v hv
 have c10 := @pick_0_ok v
 have c11 := @tail_0_ok v hv
 have c12 := @pick_0_ok v
 exact (o83 (d := .tup [.agg [.int .i8 32, .bool false, .int .u8 c, .int .i8 (IntKind.wrap IntKind.i8 (↑(BitVec.toNat (BitVec.ofInt (8 : Nat) (mrR v) ||| BitVec.ofInt (8 : Nat) (0 : Int))) : Int)), .int .i8 (IntKind.wrap IntKind.i8 (↑(BitVec.toNat (BitVec.ofInt (8 : Nat) (mrB v) ||| BitVec.ofInt (8 : Nat) (0 : Int))) : Int)), .int .i64 (mrD v), .int .i64 (tlM v (0 : Nat)), .int .i64 (IntKind.i64.wrap (pkM v (0 : Nat))), .int .i64 (tlM v (0 : Nat)), .int .i64 (IntKind.i64.wrap (IntKind.wrap IntKind.i8 (pkM v (0 : Nat)))), .int .i8 0], .bool true]) (E1 ++ [tC (nt (neOf h4)), .ret _ _ _ c9, .ret _ _ _ c10, .ret _ _ _ c11, .ret _ _ _ c12]) (by kernel_rfl)).to (by clear E1; (try simp only [decide_eq_true_eq, decide_eq_false_iff_not, wk, wkL, rawD, parRest, D.int.injEq, D.bool.injEq, true_and, and_true] at *); (try rw [mrE_n' ‹¬ mrE v = 0›]); (try simp only [w_small hv, w_jump, or8r hv (Or.inl rfl), or8b hv (Or.inl rfl), or8r4 hv, or8b2 hv]); first | done | (simp [*]; done) | (simp [*, mrR, mrB, mrD, mrN, tlM, pkM, signed1]; done) | (simp [*, mrR, mrB, mrD, mrN, tlM, pkM, signed1, w_i8]; omega))
theorem pa_nre_ok (h : Int) (g0 : 0 ≤ h) (g1 : h ≤ 255) (hq : rexQ h = true) (hh : ¬ h = 102)  : Ret Tryz.prog 83 ([.lst .no 1 (.int .u8 h :: [])]) (.tup [rawD (parF (if h / 8 % 2 = 1 then 64 else 32) (h % 2 * 8)), .bool false]) := by
 have c0 := @pick_c_ok h ([])
 have c1 := @pick_c_ok h ([])
 have c2 := @rrT_ok h g0 g1 hq
 let E1 : EL := [.ret _ _ _ c0, tC (by (first | ((try simp only [List.length_cons, List.length_nil, len_bD, sl2] at *); omega) | (simp [len_bD]; done) | (simp [len_bD]; omega) | (simp [len_bD] at *; omega)) : (h == 102) = false), .ret _ _ _ c1, .ret _ _ _ c2, tT, tT]
 rcases bft (decide (h / 8 % 2 = 1)) with h3 | h3
 ·exact (o83 (d := .tup [.agg [.int .i8 64, .bool false, .int .u8 0, .int .i8 0, .int .i8 0, .int .i64 0, .int .i64 0, .int .i64 0, .int .i64 0, .int .i64 0, .int .i8 (h % 2 * 8)], .bool false]) (E1 ++ [tC h3, tT]) (by kernel_rfl)).to (by clear E1; first | (simp [wk, wkL, rawD, parF, *]; done) | (simp only [decide_eq_true_eq, decide_eq_false_iff_not] at *; simp [wk, wkL, rawD, parF, *]))
 exact (o83 (d := .tup [.agg [.int .i8 32, .bool false, .int .u8 0, .int .i8 0, .int .i8 0, .int .i64 0, .int .i64 0, .int .i64 0, .int .i64 0, .int .i64 0, .int .i8 (h % 2 * 8)], .bool false]) (E1 ++ [tC h3, tT]) (by kernel_rfl)).to (by clear E1; first | (simp [wk, wkL, rawD, parF, *]; done) | (simp only [decide_eq_true_eq, decide_eq_false_iff_not] at *; simp [wk, wkL, rawD, parF, *]))
theorem pa_nr1_ok (h : Int) (g0 : 0 ≤ h) (g1 : h ≤ 255) (hq : rexQ h = true) (hh : ¬ h = 102) (d : Int) (v : List Int) (hv : isB v)  : Ret Tryz.prog 83 ([.lst .no 1 (.int .u8 h :: .int .u8 15 :: .int .u8 d :: bD v)]) (.tup [rawD (parRest (if h / 8 % 2 = 1 then 64 else 32) (h / 4 % 2 * 8) (h % 2 * 8) true d v), .bool true]) := by
 have c0 := @pick_c_ok h (.int .u8 15 :: .int .u8 d :: bD v)
 have c1 := @pick_c_ok h (.int .u8 15 :: .int .u8 d :: bD v)
 have c2 := @rrT_ok h g0 g1 hq
 let E1 : EL := [.ret _ _ _ c0, tC (by (first | ((try simp only [List.length_cons, List.length_nil, len_bD, sl2] at *); omega) | (simp [len_bD]; done) | (simp [len_bD]; omega) | (simp [len_bD] at *; omega)) : (h == (102 : Int)) = false), .ret _ _ _ c1, .ret _ _ _ c2, tT, .tst (decide ((0 : Int) ≤ (1 : Int) ∧ (1 : Int) ≤ (↑(List.length (.int .u8 h :: .int .u8 15 :: .int .u8 d :: bD v)) : Int))) true (by (first | ((try simp only [List.length_cons, List.length_nil, len_bD, sl2] at *); omega) | (simp [len_bD]; done) | (simp [len_bD]; omega) | (simp [len_bD] at *; omega)))]
 rcases bft (decide (h / (8 : Int) % (2 : Int) = (1 : Int))) with h3 | h3
 ·have c4 := @mr_ok v hv
  let E2 : EL := E1 ++ [tC h3, tF, .get (.int .u8 15 :: .int .u8 d :: bD v) 0 (.int .u8 15) rfl, .tst (decide ((0 : Int) ≤ (1 : Int) ∧ (1 : Int) ≤ (↑(List.length (List.drop (Int.toNat (1 : Int)) (.int .u8 h :: .int .u8 15 :: .int .u8 d :: bD v))) : Int))) true (by (first | ((try simp only [List.length_cons, List.length_nil, len_bD, sl2] at *); omega) | (simp [len_bD]; done) | (simp [len_bD]; omega) | (simp [len_bD] at *; omega))), tT, tT, tT, tT, tC (ltL 0 (by (first | ((try simp only [List.length_cons, List.length_nil, len_bD, sl2] at *); omega) | (simp [len_bD]; done) | (simp [len_bD]; omega) | (simp [len_bD] at *; omega)) : (decide ((↑(List.length (.int .u8 d :: bD v)) : Int) < (1 : Int))) = false)), .get (.int .u8 d :: bD v) 0 (.int .u8 d) rfl, .tst (decide ((0 : Int) ≤ (1 : Int) ∧ (1 : Int) ≤ (↑(List.length (List.drop (Int.toNat (1 : Int)) (List.drop (Int.toNat (1 : Int)) (.int .u8 h :: .int .u8 15 :: .int .u8 d :: bD v)))) : Int))) true (by (first | ((try simp only [List.length_cons, List.length_nil, len_bD, sl2] at *); omega) | (simp [len_bD]; done) | (simp [len_bD]; omega) | (simp [len_bD] at *; omega))), .ret _ _ _ c4]
  by_cases h5 : mrE v = 0
  ·have c6 := @tail_mr_ok v hv
   have c7 := @pick_mr_ok v
   have c8 := @tail_0_ok v hv
   have c9 := @pick_0_ok v
   exact (o83 (d := .tup [.agg [.int .i8 64, .bool true, .int .u8 d, .int .i8 (IntKind.wrap IntKind.i8 (↑(BitVec.toNat (BitVec.ofInt (8 : Nat) (mrR v) ||| BitVec.ofInt (8 : Nat) (h / (4 : Int) % (2 : Int) * (8 : Int)))) : Int)), .int .i8 (IntKind.wrap IntKind.i8 (↑(BitVec.toNat (BitVec.ofInt (8 : Nat) (mrB v) ||| BitVec.ofInt (8 : Nat) (h % (2 : Int) * (8 : Int)))) : Int)), .int .i64 (mrD v), .int .i64 (tlM v (mrN v)), .int .i64 (IntKind.i64.wrap (pkM v (mrN v))), .int .i64 (tlM v (0 : Nat)), .int .i64 (IntKind.i64.wrap (IntKind.wrap IntKind.i8 (pkM v (0 : Nat)))), .int .i8 (h % (2 : Int) * (8 : Int))], .bool true]) (E2 ++ [tC (nt (eqI 0 true h5)), .ret _ _ _ c6, .ret _ _ _ c7, .ret _ _ _ c8, .ret _ _ _ c9]) (by kernel_rfl)).to (by clear E1 E2; (try simp only [decide_eq_true_eq, decide_eq_false_iff_not, wk, wkL, rawD, parRest, D.int.injEq, D.bool.injEq, true_and, and_true] at *); (try rw [mrE_n' ‹¬ mrE v = 0›]); (try simp only [w_small hv, w_jump, or8r hv (Or.inl rfl), or8b hv (Or.inl rfl), or8r4 hv, or8b2 hv]); first | done | (simp [*]; done) | (simp [*, mrR, mrB, mrD, mrN, tlM, pkM, signed1]; done) | (simp [*, mrR, mrB, mrD, mrN, tlM, pkM, signed1, w_i8]; omega))
  have c10 := @tail_0_ok v hv
  have c11 := @pick_0_ok v
  have c12 := @tail_0_ok v hv
  have c13 := @pick_0_ok v
  exact (o83 (d := .tup [.agg [.int .i8 64, .bool true, .int .u8 d, .int .i8 (IntKind.wrap IntKind.i8 (↑(BitVec.toNat (BitVec.ofInt (8 : Nat) (mrR v) ||| BitVec.ofInt (8 : Nat) (h / (4 : Int) % (2 : Int) * (8 : Int)))) : Int)), .int .i8 (IntKind.wrap IntKind.i8 (↑(BitVec.toNat (BitVec.ofInt (8 : Nat) (mrB v) ||| BitVec.ofInt (8 : Nat) (h % (2 : Int) * (8 : Int)))) : Int)), .int .i64 (mrD v), .int .i64 (tlM v (0 : Nat)), .int .i64 (IntKind.i64.wrap (pkM v (0 : Nat))), .int .i64 (tlM v (0 : Nat)), .int .i64 (IntKind.i64.wrap (IntKind.wrap IntKind.i8 (pkM v (0 : Nat)))), .int .i8 (h % (2 : Int) * (8 : Int))], .bool true]) (E2 ++ [tC (nt (neOf h5)), .ret _ _ _ c10, .ret _ _ _ c11, .ret _ _ _ c12, .ret _ _ _ c13]) (by kernel_rfl)).to (by clear E1 E2; (try simp only [decide_eq_true_eq, decide_eq_false_iff_not, wk, wkL, rawD, parRest, D.int.injEq, D.bool.injEq, true_and, and_true] at *); (try rw [mrE_n' ‹¬ mrE v = 0›]); (try simp only [w_small hv, w_jump, or8r hv (Or.inl rfl), or8b hv (Or.inl rfl), or8r4 hv, or8b2 hv]); first | done | (simp [*]; done) | (simp [*, mrR, mrB, mrD, mrN, tlM, pkM, signed1]; done) | (simp [*, mrR, mrB, mrD, mrN, tlM, pkM, signed1, w_i8]; omega))
 have c14 := @mr_ok v hv
 let E3 : EL := E1 ++ [tC h3, tF, .get (.int .u8 15 :: .int .u8 d :: bD v) 0 (.int .u8 15) rfl, .tst (decide ((0 : Int) ≤ (1 : Int) ∧ (1 : Int) ≤ (↑(List.length (List.drop (Int.toNat (1 : Int)) (.int .u8 h :: .int .u8 15 :: .int .u8 d :: bD v))) : Int))) true (by (first | ((try simp only [List.length_cons, List.length_nil, len_bD, sl2] at *); omega) | (simp [len_bD]; done) | (simp [len_bD]; omega) | (simp [len_bD] at *; omega))), tT, tT, tT, tT, tC (ltL 0 (by (first | ((try simp only [List.length_cons, List.length_nil, len_bD, sl2] at *); omega) | (simp [len_bD]; done) | (simp [len_bD]; omega) | (simp [len_bD] at *; omega)) : (decide ((↑(List.length (.int .u8 d :: bD v)) : Int) < (1 : Int))) = false)), .get (.int .u8 d :: bD v) 0 (.int .u8 d) rfl, .tst (decide ((0 : Int) ≤ (1 : Int) ∧ (1 : Int) ≤ (↑(List.length (List.drop (Int.toNat (1 : Int)) (List.drop (Int.toNat (1 : Int)) (.int .u8 h :: .int .u8 15 :: .int .u8 d :: bD v)))) : Int))) true (by (first | ((try simp only [List.length_cons, List.length_nil, len_bD, sl2] at *); omega) | (simp [len_bD]; done) | (simp [len_bD]; omega) | (simp [len_bD] at *; omega))), .ret _ _ _ c14]
 by_cases h15 : mrE v = 0
 ·have c16 := @tail_mr_ok v hv
  have c17 := @pick_mr_ok v
  have c18 := @tail_0_ok v hv
  have c19 := @pick_0_ok v
  exact (o83 (d := .tup [.agg [.int .i8 32, .bool true, .int .u8 d, .int .i8 (IntKind.wrap IntKind.i8 (↑(BitVec.toNat (BitVec.ofInt (8 : Nat) (mrR v) ||| BitVec.ofInt (8 : Nat) (h / (4 : Int) % (2 : Int) * (8 : Int)))) : Int)), .int .i8 (IntKind.wrap IntKind.i8 (↑(BitVec.toNat (BitVec.ofInt (8 : Nat) (mrB v) ||| BitVec.ofInt (8 : Nat) (h % (2 : Int) * (8 : Int)))) : Int)), .int .i64 (mrD v), .int .i64 (tlM v (mrN v)), .int .i64 (IntKind.i64.wrap (pkM v (mrN v))), .int .i64 (tlM v (0 : Nat)), .int .i64 (IntKind.i64.wrap (IntKind.wrap IntKind.i8 (pkM v (0 : Nat)))), .int .i8 (h % (2 : Int) * (8 : Int))], .bool true]) (E3 ++ [tC (nt (eqI 0 true h15)), .ret _ _ _ c16, .ret _ _ _ c17, .ret _ _ _ c18, .ret _ _ _ c19]) (by kernel_rfl)).to (by clear E1 E3; (try simp only [decide_eq_true_eq, decide_eq_false_iff_not, wk, wkL, rawD, parRest, D.int.injEq, D.bool.injEq, true_and, and_true] at *); (try rw [mrE_n' ‹¬ mrE v = 0›]); (try simp only [w_small hv, w_jump, or8r hv (Or.inl rfl), or8b hv (Or.inl rfl), or8r4 hv, or8b2 hv]); first | done | (simp [*]; done) | (simp [*, mrR, mrB, mrD, mrN, tlM, pkM, signed1]; done) | (simp [*, mrR, mrB, mrD, mrN, tlM, pkM, signed1, w_i8]; omega))
 have c20 := @tail_0_ok v hv
 have c21 := @pick_0_ok v
 have c22 := @tail_0_ok v hv
 have c23 := @pick_0_ok v
 exact (o83 (d := .tup [.agg [.int .i8 32, .bool true, .int .u8 d, .int .i8 (IntKind.wrap IntKind.i8 (↑(BitVec.toNat (BitVec.ofInt (8 : Nat) (mrR v) ||| BitVec.ofInt (8 : Nat) (h / (4 : Int) % (2 : Int) * (8 : Int)))) : Int)), .int .i8 (IntKind.wrap IntKind.i8 (↑(BitVec.toNat (BitVec.ofInt (8 : Nat) (mrB v) ||| BitVec.ofInt (8 : Nat) (h % (2 : Int) * (8 : Int)))) : Int)), .int .i64 (mrD v), .int .i64 (tlM v (0 : Nat)), .int .i64 (IntKind.i64.wrap (pkM v (0 : Nat))), .int .i64 (tlM v (0 : Nat)), .int .i64 (IntKind.i64.wrap (IntKind.wrap IntKind.i8 (pkM v (0 : Nat)))), .int .i8 (h % (2 : Int) * (8 : Int))], .bool true]) (E3 ++ [tC (nt (neOf h15)), .ret _ _ _ c20, .ret _ _ _ c21, .ret _ _ _ c22, .ret _ _ _ c23]) (by kernel_rfl)).to (by clear E1 E3; (try simp only [decide_eq_true_eq, decide_eq_false_iff_not, wk, wkL, rawD, parRest, D.int.injEq, D.bool.injEq, true_and, and_true] at *); (try rw [mrE_n' ‹¬ mrE v = 0›]); (try simp only [w_small hv, w_jump, or8r hv (Or.inl rfl), or8b hv (Or.inl rfl), or8r4 hv, or8b2 hv]); first | done | (simp [*]; done) | (simp [*, mrR, mrB, mrD, mrN, tlM, pkM, signed1]; done) | (simp [*, mrR, mrB, mrD, mrN, tlM, pkM, signed1, w_i8]; omega))
theorem pa_nr0_ok (h : Int) (g0 : 0 ≤ h) (g1 : h ≤ 255) (hq : rexQ h = true) (hh : ¬ h = 102)  : Ret Tryz.prog 83 ([.lst .no 1 (.int .u8 h :: .int .u8 15 :: [])]) (.tup [rawD (parRest (if h / 8 % 2 = 1 then 64 else 32) (h / 4 % 2 * 8) (h % 2 * 8) false 15 []), .bool true]) := by
 have c0 := @pick_c_ok h ([.int .u8 15])
 have c1 := @pick_c_ok h ([.int .u8 15])
 have c2 := @rrT_ok h g0 g1 hq
 let E1 : EL := [.ret _ _ _ c0, tC (by (first | ((try simp only [List.length_cons, List.length_nil, len_bD, sl2] at *); omega) | (simp [len_bD]; done) | (simp [len_bD]; omega) | (simp [len_bD] at *; omega)) : (h == 102) = false), .ret _ _ _ c1, .ret _ _ _ c2, tT, tT]
 rcases bft (decide (h / 8 % 2 = 1)) with h3 | h3
 ·have c4 := @mr_nil_ok
  have c5 := @pick_n_ok
  have c6 := @pick_n_ok
  exact (o83 (d := .tup [.agg [.int .i8 64, .bool false, .int .u8 15, .int .i8 (IntKind.wrap IntKind.i8 (↑(BitVec.toNat (BitVec.ofInt (8 : Nat) 0 ||| BitVec.ofInt (8 : Nat) (h / 4 % 2 * 8))) : Int)), .int .i8 (IntKind.wrap IntKind.i8 (↑(BitVec.toNat (BitVec.ofInt (8 : Nat) 0 ||| BitVec.ofInt (8 : Nat) (h % 2 * 8))) : Int)), .int .i64 0, .int .i64 0, .int .i64 0, .int .i64 0, .int .i64 0, .int .i8 (h % 2 * 8)], .bool true]) (E1 ++ [tC h3, tF, .get ([.int .u8 15]) 0 (.int .u8 15) rfl, tT, tT, tT, tT, tT, tF, .ret _ _ _ c4, tT, .inl, tT, .ret _ _ _ c5, .inl, tT, .ret _ _ _ c6]) (by kernel_rfl)).to (by clear E1; (try simp only [decide_eq_true_eq, decide_eq_false_iff_not, wk, wkL, rawD, parRest, D.int.injEq, D.bool.injEq, true_and, and_true] at *); (try rw [mrE_n' ‹¬ mrE [] = 0›]); (try simp only [w_small nilB, w_jump, or8r nilB (Or.inl rfl), or8b nilB (Or.inl rfl), or8r4 nilB, or8b2 nilB]); first | done | (simp [*]; done) | (simp [*, mrR, mrB, mrD, mrN, tlM, pkM, signed1]; done) | (simp [*, mrR, mrB, mrD, mrN, tlM, pkM, signed1, w_i8]; omega))
 have c7 := @mr_nil_ok
 have c8 := @pick_n_ok
 have c9 := @pick_n_ok
 exact (o83 (d := .tup [.agg [.int .i8 32, .bool false, .int .u8 15, .int .i8 (IntKind.wrap IntKind.i8 (↑(BitVec.toNat (BitVec.ofInt (8 : Nat) 0 ||| BitVec.ofInt (8 : Nat) (h / 4 % 2 * 8))) : Int)), .int .i8 (IntKind.wrap IntKind.i8 (↑(BitVec.toNat (BitVec.ofInt (8 : Nat) 0 ||| BitVec.ofInt (8 : Nat) (h % 2 * 8))) : Int)), .int .i64 0, .int .i64 0, .int .i64 0, .int .i64 0, .int .i64 0, .int .i8 (h % 2 * 8)], .bool true]) (E1 ++ [tC h3, tF, .get ([.int .u8 15]) 0 (.int .u8 15) rfl, tT, tT, tT, tT, tT, tF, .ret _ _ _ c7, tT, .inl, tT, .ret _ _ _ c8, .inl, tT, .ret _ _ _ c9]) (by kernel_rfl)).to (by clear E1; (try simp only [decide_eq_true_eq, decide_eq_false_iff_not, wk, wkL, rawD, parRest, D.int.injEq, D.bool.injEq, true_and, and_true] at *); (try rw [mrE_n' ‹¬ mrE [] = 0›]); (try simp only [w_small nilB, w_jump, or8r nilB (Or.inl rfl), or8b nilB (Or.inl rfl), or8r4 nilB, or8b2 nilB]); first | done | (simp [*]; done) | (simp [*, mrR, mrB, mrD, mrN, tlM, pkM, signed1]; done) | (simp [*, mrR, mrB, mrD, mrN, tlM, pkM, signed1, w_i8]; omega))
theorem pa_nrc_ok (h : Int) (g0 : 0 ≤ h) (g1 : h ≤ 255) (hq : rexQ h = true) (hh : ¬ h = 102) (c : Int) (hc : ¬ c = 15) (v : List Int) (hv : isB v)  : Ret Tryz.prog 83 ([.lst .no 1 (.int .u8 h :: .int .u8 c :: bD v)]) (.tup [rawD (parRest (if h / 8 % 2 = 1 then 64 else 32) (h / 4 % 2 * 8) (h % 2 * 8) false c v), .bool true]) := by
 have c0 := @pick_c_ok h (.int .u8 c :: bD v)
 have c1 := @pick_c_ok h (.int .u8 c :: bD v)
 have c2 := @rrT_ok h g0 g1 hq
 let E1 : EL := [.ret _ _ _ c0, tC (by (first | ((try simp only [List.length_cons, List.length_nil, len_bD, sl2] at *); omega) | (simp [len_bD]; done) | (simp [len_bD]; omega) | (simp [len_bD] at *; omega)) : (h == (102 : Int)) = false), .ret _ _ _ c1, .ret _ _ _ c2, tT, .tst (decide ((0 : Int) ≤ (1 : Int) ∧ (1 : Int) ≤ (↑(List.length (.int .u8 h :: .int .u8 c :: bD v)) : Int))) true (by (first | ((try simp only [List.length_cons, List.length_nil, len_bD, sl2] at *); omega) | (simp [len_bD]; done) | (simp [len_bD]; omega) | (simp [len_bD] at *; omega)))]
 rcases bft (decide (h / (8 : Int) % (2 : Int) = (1 : Int))) with h3 | h3
 ·have c4 := @mr_ok v hv
  let E2 : EL := E1 ++ [tC h3, tF, .get (.int .u8 c :: bD v) 0 (.int .u8 c) rfl, .tst (decide ((0 : Int) ≤ (1 : Int) ∧ (1 : Int) ≤ (↑(List.length (List.drop (Int.toNat (1 : Int)) (.int .u8 h :: .int .u8 c :: bD v))) : Int))) true (by (first | ((try simp only [List.length_cons, List.length_nil, len_bD, sl2] at *); omega) | (simp [len_bD]; done) | (simp [len_bD]; omega) | (simp [len_bD] at *; omega)))] ++ List.replicate 3 (tC (eT (by (first | ((try simp only [List.length_cons, List.length_nil, len_bD, sl2] at *); omega) | (simp [len_bD]; done) | (simp [len_bD]; omega) | (simp [len_bD] at *; omega)) : (c == (15 : Int)) = false))) ++ [tC (by (first | ((try simp only [List.length_cons, List.length_nil, len_bD, sl2] at *); omega) | (simp [len_bD]; done) | (simp [len_bD]; omega) | (simp [len_bD] at *; omega)) : (c == (15 : Int)) = false), tF, .ret _ _ _ c4]
  by_cases h5 : mrE v = 0
  ·have c6 := @tail_mr_ok v hv
   have c7 := @pick_mr_ok v
   have c8 := @tail_0_ok v hv
   have c9 := @pick_0_ok v
   exact (o83 (d := .tup [.agg [.int .i8 64, .bool false, .int .u8 c, .int .i8 (IntKind.wrap IntKind.i8 (↑(BitVec.toNat (BitVec.ofInt (8 : Nat) (mrR v) ||| BitVec.ofInt (8 : Nat) (h / (4 : Int) % (2 : Int) * (8 : Int)))) : Int)), .int .i8 (IntKind.wrap IntKind.i8 (↑(BitVec.toNat (BitVec.ofInt (8 : Nat) (mrB v) ||| BitVec.ofInt (8 : Nat) (h % (2 : Int) * (8 : Int)))) : Int)), .int .i64 (mrD v), .int .i64 (tlM v (mrN v)), .int .i64 (IntKind.i64.wrap (pkM v (mrN v))), .int .i64 (tlM v (0 : Nat)), .int .i64 (IntKind.i64.wrap (IntKind.wrap IntKind.i8 (pkM v (0 : Nat)))), .int .i8 (h % (2 : Int) * (8 : Int))], .bool true]) (E2 ++ [tC (nt (eqI 0 true h5)), .ret _ _ _ c6, .ret _ _ _ c7, .ret _ _ _ c8, .ret _ _ _ c9]) (by kernel_rfl)).to (by clear E1 E2; (try simp only [decide_eq_true_eq, decide_eq_false_iff_not, wk, wkL, rawD, parRest, D.int.injEq, D.bool.injEq, true_and, and_true] at *); (try rw [mrE_n' ‹¬ mrE v = 0›]); (try simp only [w_small hv, w_jump, or8r hv (Or.inl rfl), or8b hv (Or.inl rfl), or8r4 hv, or8b2 hv]); first | done | (simp [*]; done) | (simp [*, mrR, mrB, mrD, mrN, tlM, pkM, signed1]; done) | (simp [*, mrR, mrB, mrD, mrN, tlM, pkM, signed1, w_i8]; omega))
  have c10 := @tail_0_ok v hv
  have c11 := @pick_0_ok v
  have c12 := @tail_0_ok v hv
  have c13 := @pick_0_ok v
  exact (o83 (d := .tup [.agg [.int .i8 64, .bool false, .int .u8 c, .int .i8 (IntKind.wrap IntKind.i8 (↑(BitVec.toNat (BitVec.ofInt (8 : Nat) (mrR v) ||| BitVec.ofInt (8 : Nat) (h / (4 : Int) % (2 : Int) * (8 : Int)))) : Int)), .int .i8 (IntKind.wrap IntKind.i8 (↑(BitVec.toNat (BitVec.ofInt (8 : Nat) (mrB v) ||| BitVec.ofInt (8 : Nat) (h % (2 : Int) * (8 : Int)))) : Int)), .int .i64 (mrD v), .int .i64 (tlM v (0 : Nat)), .int .i64 (IntKind.i64.wrap (pkM v (0 : Nat))), .int .i64 (tlM v (0 : Nat)), .int .i64 (IntKind.i64.wrap (IntKind.wrap IntKind.i8 (pkM v (0 : Nat)))), .int .i8 (h % (2 : Int) * (8 : Int))], .bool true]) (E2 ++ [tC (nt (neOf h5)), .ret _ _ _ c10, .ret _ _ _ c11, .ret _ _ _ c12, .ret _ _ _ c13]) (by kernel_rfl)).to (by clear E1 E2; (try simp only [decide_eq_true_eq, decide_eq_false_iff_not, wk, wkL, rawD, parRest, D.int.injEq, D.bool.injEq, true_and, and_true] at *); (try rw [mrE_n' ‹¬ mrE v = 0›]); (try simp only [w_small hv, w_jump, or8r hv (Or.inl rfl), or8b hv (Or.inl rfl), or8r4 hv, or8b2 hv]); first | done | (simp [*]; done) | (simp [*, mrR, mrB, mrD, mrN, tlM, pkM, signed1]; done) | (simp [*, mrR, mrB, mrD, mrN, tlM, pkM, signed1, w_i8]; omega))
 have c14 := @mr_ok v hv
 let E3 : EL := E1 ++ [tC h3, tF, .get (.int .u8 c :: bD v) 0 (.int .u8 c) rfl, .tst (decide ((0 : Int) ≤ (1 : Int) ∧ (1 : Int) ≤ (↑(List.length (List.drop (Int.toNat (1 : Int)) (.int .u8 h :: .int .u8 c :: bD v))) : Int))) true (by (first | ((try simp only [List.length_cons, List.length_nil, len_bD, sl2] at *); omega) | (simp [len_bD]; done) | (simp [len_bD]; omega) | (simp [len_bD] at *; omega)))] ++ List.replicate 3 (tC (eT (by (first | ((try simp only [List.length_cons, List.length_nil, len_bD, sl2] at *); omega) | (simp [len_bD]; done) | (simp [len_bD]; omega) | (simp [len_bD] at *; omega)) : (c == (15 : Int)) = false))) ++ [tC (by (first | ((try simp only [List.length_cons, List.length_nil, len_bD, sl2] at *); omega) | (simp [len_bD]; done) | (simp [len_bD]; omega) | (simp [len_bD] at *; omega)) : (c == (15 : Int)) = false), tF, .ret _ _ _ c14]
 by_cases h15 : mrE v = 0
 ·have c16 := @tail_mr_ok v hv
  have c17 := @pick_mr_ok v
  have c18 := @tail_0_ok v hv
  have c19 := @pick_0_ok v
  exact (o83 (d := .tup [.agg [.int .i8 32, .bool false, .int .u8 c, .int .i8 (IntKind.wrap IntKind.i8 (↑(BitVec.toNat (BitVec.ofInt (8 : Nat) (mrR v) ||| BitVec.ofInt (8 : Nat) (h / (4 : Int) % (2 : Int) * (8 : Int)))) : Int)), .int .i8 (IntKind.wrap IntKind.i8 (↑(BitVec.toNat (BitVec.ofInt (8 : Nat) (mrB v) ||| BitVec.ofInt (8 : Nat) (h % (2 : Int) * (8 : Int)))) : Int)), .int .i64 (mrD v), .int .i64 (tlM v (mrN v)), .int .i64 (IntKind.i64.wrap (pkM v (mrN v))), .int .i64 (tlM v (0 : Nat)), .int .i64 (IntKind.i64.wrap (IntKind.wrap IntKind.i8 (pkM v (0 : Nat)))), .int .i8 (h % (2 : Int) * (8 : Int))], .bool true]) (E3 ++ [tC (nt (eqI 0 true h15)), .ret _ _ _ c16, .ret _ _ _ c17, .ret _ _ _ c18, .ret _ _ _ c19]) (by kernel_rfl)).to (by clear E1 E3; (try simp only [decide_eq_true_eq, decide_eq_false_iff_not, wk, wkL, rawD, parRest, D.int.injEq, D.bool.injEq, true_and, and_true] at *); (try rw [mrE_n' ‹¬ mrE v = 0›]); (try simp only [w_small hv, w_jump, or8r hv (Or.inl rfl), or8b hv (Or.inl rfl), or8r4 hv, or8b2 hv]); first | done | (simp [*]; done) | (simp [*, mrR, mrB, mrD, mrN, tlM, pkM, signed1]; done) | (simp [*, mrR, mrB, mrD, mrN, tlM, pkM, signed1, w_i8]; omega))
 have c20 := @tail_0_ok v hv
 have c21 := @pick_0_ok v
 have c22 := @tail_0_ok v hv
 have c23 := @pick_0_ok v
 exact (o83 (d := .tup [.agg [.int .i8 32, .bool false, .int .u8 c, .int .i8 (IntKind.wrap IntKind.i8 (↑(BitVec.toNat (BitVec.ofInt (8 : Nat) (mrR v) ||| BitVec.ofInt (8 : Nat) (h / (4 : Int) % (2 : Int) * (8 : Int)))) : Int)), .int .i8 (IntKind.wrap IntKind.i8 (↑(BitVec.toNat (BitVec.ofInt (8 : Nat) (mrB v) ||| BitVec.ofInt (8 : Nat) (h % (2 : Int) * (8 : Int)))) : Int)), .int .i64 (mrD v), .int .i64 (tlM v (0 : Nat)), .int .i64 (IntKind.i64.wrap (pkM v (0 : Nat))), .int .i64 (tlM v (0 : Nat)), .int .i64 (IntKind.i64.wrap (IntKind.wrap IntKind.i8 (pkM v (0 : Nat)))), .int .i8 (h % (2 : Int) * (8 : Int))], .bool true]) (E3 ++ [tC (nt (neOf h15)), .ret _ _ _ c20, .ret _ _ _ c21, .ret _ _ _ c22, .ret _ _ _ c23]) (by kernel_rfl)).to (by clear E1 E3; (try simp only [decide_eq_true_eq, decide_eq_false_iff_not, wk, wkL, rawD, parRest, D.int.injEq, D.bool.injEq, true_and, and_true] at *); (try rw [mrE_n' ‹¬ mrE v = 0›]); (try simp only [w_small hv, w_jump, or8r hv (Or.inl rfl), or8b hv (Or.inl rfl), or8r4 hv, or8b2 hv]); first | done | (simp [*]; done) | (simp [*, mrR, mrB, mrD, mrN, tlM, pkM, signed1]; done) | (simp [*, mrR, mrB, mrD, mrN, tlM, pkM, signed1, w_i8]; omega))
theorem pa_hxe_ok  : Ret Tryz.prog 83 ([.lst .no 1 (.int .u8 102 :: [])]) (.tup [rawD (parF 16 0), .bool false]) := by
 have c0 := @pick_c_ok 102 ([])
 have c1 := @pick_n_ok
 have c2 := @rrF_ok 0 (by decide) (by decide) (rfl : false = false)
 exact (o83 (d := .tup [.agg [.int .i8 16, .bool false, .int .u8 0, .int .i8 0, .int .i8 0, .int .i64 0, .int .i64 0, .int .i64 0, .int .i64 0, .int .i64 0, .int .i8 0], .bool false]) [.ret _ _ _ c0, tT, tT, .ret _ _ _ c1, .ret _ _ _ c2, tF, tT] (by kernel_rfl)).to (by first | (simp [wk, wkL, rawD, parF, *]; done) | (simp only [decide_eq_true_eq, decide_eq_false_iff_not] at *; simp [wk, wkL, rawD, parF, *]))
theorem pa_hx1_ok (d : Int) (v : List Int) (hv : isB v)  : Ret Tryz.prog 83 ([.lst .no 1 (.int .u8 102 :: .int .u8 15 :: .int .u8 d :: bD v)]) (.tup [rawD (parRest 16 0 0 true d v), .bool true]) := by
 have c0 := @pick_c_ok 102 (.int .u8 15 :: .int .u8 d :: bD v)
 have c1 := @pick_c_ok 15 (.int .u8 d :: bD v)
 have c2 := @rrF_ok 15 (by first | rfl | decide) (by first | rfl | decide) (rfl : false = false)
 have c3 := @mr_ok v hv
 let E1 : EL := [.ret _ _ _ c0, tT, .tst (decide ((0 : Int) ≤ (1 : Int) ∧ (1 : Int) ≤ (↑(List.length (.int .u8 102 :: .int .u8 15 :: .int .u8 d :: bD v)) : Int))) true (by (first | ((try simp only [List.length_cons, List.length_nil, len_bD, sl2] at *); omega) | (simp [len_bD]; done) | (simp [len_bD]; omega) | (simp [len_bD] at *; omega))), .ret _ _ _ c1, .ret _ _ _ c2, tF, tF, .get (.int .u8 15 :: .int .u8 d :: bD v) 0 (.int .u8 15) rfl, .tst (decide ((0 : Int) ≤ (1 : Int) ∧ (1 : Int) ≤ (↑(List.length (List.drop (Int.toNat (1 : Int)) (.int .u8 102 :: .int .u8 15 :: .int .u8 d :: bD v))) : Int))) true (by (first | ((try simp only [List.length_cons, List.length_nil, len_bD, sl2] at *); omega) | (simp [len_bD]; done) | (simp [len_bD]; omega) | (simp [len_bD] at *; omega))), tT, tT, tT, tT, tC (ltL 0 (by (first | ((try simp only [List.length_cons, List.length_nil, len_bD, sl2] at *); omega) | (simp [len_bD]; done) | (simp [len_bD]; omega) | (simp [len_bD] at *; omega)) : (decide ((↑(List.length (.int .u8 d :: bD v)) : Int) < (1 : Int))) = false)), .get (.int .u8 d :: bD v) 0 (.int .u8 d) rfl, .tst (decide ((0 : Int) ≤ (1 : Int) ∧ (1 : Int) ≤ (↑(List.length (List.drop (Int.toNat (1 : Int)) (List.drop (Int.toNat (1 : Int)) (.int .u8 102 :: .int .u8 15 :: .int .u8 d :: bD v)))) : Int))) true (by (first | ((try simp only [List.length_cons, List.length_nil, len_bD, sl2] at *); omega) | (simp [len_bD]; done) | (simp [len_bD]; omega) | (simp [len_bD] at *; omega))), .ret _ _ _ c3]
 by_cases h4 : mrE v = 0
 ·have c5 := @tail_mr_ok v hv
  have c6 := @pick_mr_ok v
  have c7 := @tail_0_ok v hv
  have c8 := @pick_0_ok v
  exact (o83 (d := .tup [.agg [.int .i8 16, .bool true, .int .u8 d, .int .i8 (IntKind.wrap IntKind.i8 (↑(BitVec.toNat (BitVec.ofInt (8 : Nat) (mrR v) ||| BitVec.ofInt (8 : Nat) (0 : Int))) : Int)), .int .i8 (IntKind.wrap IntKind.i8 (↑(BitVec.toNat (BitVec.ofInt (8 : Nat) (mrB v) ||| BitVec.ofInt (8 : Nat) (0 : Int))) : Int)), .int .i64 (mrD v), .int .i64 (tlM v (mrN v)), .int .i64 (IntKind.i64.wrap (pkM v (mrN v))), .int .i64 (tlM v (0 : Nat)), .int .i64 (IntKind.i64.wrap (IntKind.wrap IntKind.i8 (pkM v (0 : Nat)))), .int .i8 0], .bool true]) (E1 ++ [tC (nt (eqI 0 true h4)), .ret _ _ _ c5, .ret _ _ _ c6, .ret _ _ _ c7, .ret _ _ _ c8]) (by kernel_rfl)).to (by clear E1; (try simp only [decide_eq_true_eq, decide_eq_false_iff_not, wk, wkL, rawD, parRest, D.int.injEq, D.bool.injEq, true_and, and_true] at *); (try rw [mrE_n' ‹¬ mrE v = 0›]); (try simp only [w_small hv, w_jump, or8r hv (Or.inl rfl), or8b hv (Or.inl rfl), or8r4 hv, or8b2 hv]); first | done | (simp [*]; done) | (simp [*, mrR, mrB, mrD, mrN, tlM, pkM, signed1]; done) | (simp [*, mrR, mrB, mrD, mrN, tlM, pkM, signed1, w_i8]; omega))
 have c9 := @tail_0_ok v hv
 have c10 := @pick_0_ok v
 have c11 := @tail_0_ok v hv
 have c12 := @pick_0_ok v
 exact (o83 (d := .tup [.agg [.int .i8 16, .bool true, .int .u8 d, .int .i8 (IntKind.wrap IntKind.i8 (↑(BitVec.toNat (BitVec.ofInt (8 : Nat) (mrR v) ||| BitVec.ofInt (8 : Nat) (0 : Int))) : Int)), .int .i8 (IntKind.wrap IntKind.i8 (↑(BitVec.toNat (BitVec.ofInt (8 : Nat) (mrB v) ||| BitVec.ofInt (8 : Nat) (0 : Int))) : Int)), .int .i64 (mrD v), .int .i64 (tlM v (0 : Nat)), .int .i64 (IntKind.i64.wrap (pkM v (0 : Nat))), .int .i64 (tlM v (0 : Nat)), .int .i64 (IntKind.i64.wrap (IntKind.wrap IntKind.i8 (pkM v (0 : Nat)))), .int .i8 0], .bool true]) (E1 ++ [tC (nt (neOf h4)), .ret _ _ _ c9, .ret _ _ _ c10, .ret _ _ _ c11, .ret _ _ _ c12]) (by kernel_rfl)).to (by clear E1; (try simp only [decide_eq_true_eq, decide_eq_false_iff_not, wk, wkL, rawD, parRest, D.int.injEq, D.bool.injEq, true_and, and_true] at *); (try rw [mrE_n' ‹¬ mrE v = 0›]); (try simp only [w_small hv, w_jump, or8r hv (Or.inl rfl), or8b hv (Or.inl rfl), or8r4 hv, or8b2 hv]); first | done | (simp [*]; done) | (simp [*, mrR, mrB, mrD, mrN, tlM, pkM, signed1]; done) | (simp [*, mrR, mrB, mrD, mrN, tlM, pkM, signed1, w_i8]; omega))
theorem pa_hx0_ok  : Ret Tryz.prog 83 ([.lst .no 1 (.int .u8 102 :: .int .u8 15 :: [])]) (.tup [rawD (parRest 16 0 0 false 15 []), .bool true]) := by
 have c0 := @pick_c_ok 102 ([.int .u8 15])
 have c1 := @pick_c_ok 15 ([])
 have c2 := @rrF_ok 15 (by decide) (by decide) (rfl : false = false)
 have c3 := @mr_nil_ok
 have c4 := @pick_n_ok
 have c5 := @pick_n_ok
 exact (o83 (d := .tup [.agg [.int .i8 16, .bool false, .int .u8 15, .int .i8 0, .int .i8 0, .int .i64 0, .int .i64 0, .int .i64 0, .int .i64 0, .int .i64 0, .int .i8 0], .bool true]) [.ret _ _ _ c0, tT, tT, .ret _ _ _ c1, .ret _ _ _ c2, tF, tF, .get ([.int .u8 15]) 0 (.int .u8 15) rfl, tT, tT, tT, tT, tT, tF, .ret _ _ _ c3, tT, .inl, tT, .ret _ _ _ c4, .inl, tT, .ret _ _ _ c5] (by kernel_rfl)).to (by (try simp only [decide_eq_true_eq, decide_eq_false_iff_not, wk, wkL, rawD, parRest, D.int.injEq, D.bool.injEq, true_and, and_true] at *); (try rw [mrE_n' ‹¬ mrE [] = 0›]); (try simp only [w_small nilB, w_jump, or8r nilB (Or.inl rfl), or8b nilB (Or.inl rfl), or8r4 nilB, or8b2 nilB]); first | done | (simp [*]; done) | (simp [*, mrR, mrB, mrD, mrN, tlM, pkM, signed1]; done) | (simp [*, mrR, mrB, mrD, mrN, tlM, pkM, signed1, w_i8]; omega))
theorem pa_hxc_ok (c : Int) (k0 : 0 ≤ c) (k1 : c ≤ 255) (hq : rexQ c = false) (hc : ¬ c = 15) (v : List Int) (hv : isB v)  : Ret Tryz.prog 83 ([.lst .no 1 (.int .u8 102 :: .int .u8 c :: bD v)]) (.tup [rawD (parRest 16 0 0 false c v), .bool true]) := by
 have c0 := @pick_c_ok 102 (.int .u8 c :: bD v)
 have c1 := @pick_c_ok c (bD v)
 have c2 := @rrF_ok c k0 k1 hq
 have c3 := @mr_ok v hv
 let E1 : EL := ([.ret _ _ _ c0, tT, .tst (decide ((0 : Int) ≤ (1 : Int) ∧ (1 : Int) ≤ (↑(List.length (.int .u8 102 :: .int .u8 c :: bD v)) : Int))) true (by (first | ((try simp only [List.length_cons, List.length_nil, len_bD, sl2] at *); omega) | (simp [len_bD]; done) | (simp [len_bD]; omega) | (simp [len_bD] at *; omega))), .ret _ _ _ c1, .ret _ _ _ c2, tF, tF, .get (.int .u8 c :: bD v) 0 (.int .u8 c) rfl, .tst (decide ((0 : Int) ≤ (1 : Int) ∧ (1 : Int) ≤ (↑(List.length (List.drop (Int.toNat (1 : Int)) (.int .u8 102 :: .int .u8 c :: bD v))) : Int))) true (by (first | ((try simp only [List.length_cons, List.length_nil, len_bD, sl2] at *); omega) | (simp [len_bD]; done) | (simp [len_bD]; omega) | (simp [len_bD] at *; omega)))] ++ List.replicate 3 (tC (eT (by (first | ((try simp only [List.length_cons, List.length_nil, len_bD, sl2] at *); omega) | (simp [len_bD]; done) | (simp [len_bD]; omega) | (simp [len_bD] at *; omega)) : (c == (15 : Int)) = false))) ++ [tC (by (first | ((try simp only [List.length_cons, List.length_nil, len_bD, sl2] at *); omega) | (simp [len_bD]; done) | (simp [len_bD]; omega) | (simp [len_bD] at *; omega)) : (c == (15 : Int)) = false), tF, .ret _ _ _ c3])
 by_cases h4 : mrE v = 0
 ·have c5 := @tail_mr_ok v hv
  have c6 := @pick_mr_ok v
  have c7 := @tail_0_ok v hv
  have c8 := @pick_0_ok v
  exact (o83 (d := .tup [.agg [.int .i8 16, .bool false, .int .u8 c, .int .i8 (IntKind.wrap IntKind.i8 (↑(BitVec.toNat (BitVec.ofInt (8 : Nat) (mrR v) ||| BitVec.ofInt (8 : Nat) (0 : Int))) : Int)), .int .i8 (IntKind.wrap IntKind.i8 (↑(BitVec.toNat (BitVec.ofInt (8 : Nat) (mrB v) ||| BitVec.ofInt (8 : Nat) (0 : Int))) : Int)), .int .i64 (mrD v), .int .i64 (tlM v (mrN v)), .int .i64 (IntKind.i64.wrap (pkM v (mrN v))), .int .i64 (tlM v (0 : Nat)), .int .i64 (IntKind.i64.wrap (IntKind.wrap IntKind.i8 (pkM v (0 : Nat)))), .int .i8 0], .bool true]) (E1 ++ [tC (nt (eqI 0 true h4)), .ret _ _ _ c5, .ret _ _ _ c6, .ret _ _ _ c7, .ret _ _ _ c8]) (by kernel_rfl)).to (by clear E1; (try simp only [decide_eq_true_eq, decide_eq_false_iff_not, wk, wkL, rawD, parRest, D.int.injEq, D.bool.injEq, true_and, and_true] at *); (try rw [mrE_n' ‹¬ mrE v = 0›]); (try simp only [w_small hv, w_jump, or8r hv (Or.inl rfl), or8b hv (Or.inl rfl), or8r4 hv, or8b2 hv]); first | done | (simp [*]; done) | (simp [*, mrR, mrB, mrD, mrN, tlM, pkM, signed1]; done) | (simp [*, mrR, mrB, mrD, mrN, tlM, pkM, signed1, w_i8]; omega))
 have c9 := @tail_0_ok v hv
 have c10 := @pick_0_ok v
 have c11 := @tail_0_ok v hv
 have c12 := @pick_0_ok v
 exact (o83 (d := .tup [.agg [.int .i8 16, .bool false, .int .u8 c, .int .i8 (IntKind.wrap IntKind.i8 (↑(BitVec.toNat (BitVec.ofInt (8 : Nat) (mrR v) ||| BitVec.ofInt (8 : Nat) (0 : Int))) : Int)), .int .i8 (IntKind.wrap IntKind.i8 (↑(BitVec.toNat (BitVec.ofInt (8 : Nat) (mrB v) ||| BitVec.ofInt (8 : Nat) (0 : Int))) : Int)), .int .i64 (mrD v), .int .i64 (tlM v (0 : Nat)), .int .i64 (IntKind.i64.wrap (pkM v (0 : Nat))), .int .i64 (tlM v (0 : Nat)), .int .i64 (IntKind.i64.wrap (IntKind.wrap IntKind.i8 (pkM v (0 : Nat)))), .int .i8 0], .bool true]) (E1 ++ [tC (nt (neOf h4)), .ret _ _ _ c9, .ret _ _ _ c10, .ret _ _ _ c11, .ret _ _ _ c12]) (by kernel_rfl)).to (by clear E1; (try simp only [decide_eq_true_eq, decide_eq_false_iff_not, wk, wkL, rawD, parRest, D.int.injEq, D.bool.injEq, true_and, and_true] at *); (try rw [mrE_n' ‹¬ mrE v = 0›]); (try simp only [w_small hv, w_jump, or8r hv (Or.inl rfl), or8b hv (Or.inl rfl), or8r4 hv, or8b2 hv]); first | done | (simp [*]; done) | (simp [*, mrR, mrB, mrD, mrN, tlM, pkM, signed1]; done) | (simp [*, mrR, mrB, mrD, mrN, tlM, pkM, signed1, w_i8]; omega))
theorem pa_hre_ok (h : Int) (g0 : 0 ≤ h) (g1 : h ≤ 255) (hq : rexQ h = true)  : Ret Tryz.prog 83 ([.lst .no 1 (.int .u8 102 :: .int .u8 h :: [])]) (.tup [rawD (parF (if h / 8 % 2 = 1 then 64 else 16) (h % 2 * 8)), .bool false]) := by
 have c0 := @pick_c_ok 102 ([.int .u8 h])
 have c1 := @pick_c_ok h ([])
 have c2 := @rrT_ok h g0 g1 hq
 rcases bft (decide (h / 8 % 2 = 1)) with h3 | h3
 ·exact (o83 (d := .tup [.agg [.int .i8 64, .bool false, .int .u8 0, .int .i8 0, .int .i8 0, .int .i64 0, .int .i64 0, .int .i64 0, .int .i64 0, .int .i64 0, .int .i8 (h % 2 * 8)], .bool false]) [.ret _ _ _ c0, tT, tT, .ret _ _ _ c1, .ret _ _ _ c2, tT, tT, tC h3, tT] (by kernel_rfl)).to (by first | (simp [wk, wkL, rawD, parF, *]; done) | (simp only [decide_eq_true_eq, decide_eq_false_iff_not] at *; simp [wk, wkL, rawD, parF, *]))
 exact (o83 (d := .tup [.agg [.int .i8 16, .bool false, .int .u8 0, .int .i8 0, .int .i8 0, .int .i64 0, .int .i64 0, .int .i64 0, .int .i64 0, .int .i64 0, .int .i8 (h % 2 * 8)], .bool false]) [.ret _ _ _ c0, tT, tT, .ret _ _ _ c1, .ret _ _ _ c2, tT, tT, tC h3, tT] (by kernel_rfl)).to (by first | (simp [wk, wkL, rawD, parF, *]; done) | (simp only [decide_eq_true_eq, decide_eq_false_iff_not] at *; simp [wk, wkL, rawD, parF, *]))
theorem pa_hr1_ok (h : Int) (g0 : 0 ≤ h) (g1 : h ≤ 255) (hq : rexQ h = true) (d : Int) (v : List Int) (hv : isB v)  : Ret Tryz.prog 83 ([.lst .no 1 (.int .u8 102 :: .int .u8 h :: .int .u8 15 :: .int .u8 d :: bD v)]) (.tup [rawD (parRest (if h / 8 % 2 = 1 then 64 else 16) (h / 4 % 2 * 8) (h % 2 * 8) true d v), .bool true]) := by
 have c0 := @pick_c_ok 102 (.int .u8 h :: .int .u8 15 :: .int .u8 d :: bD v)
 have c1 := @pick_c_ok h (.int .u8 15 :: .int .u8 d :: bD v)
 have c2 := @rrT_ok h g0 g1 hq
 let E1 : EL := [.ret _ _ _ c0, tT, .tst (decide ((0 : Int) ≤ (1 : Int) ∧ (1 : Int) ≤ (↑(List.length (.int .u8 102 :: .int .u8 h :: .int .u8 15 :: .int .u8 d :: bD v)) : Int))) true (by (first | ((try simp only [List.length_cons, List.length_nil, len_bD, sl2] at *); omega) | (simp [len_bD]; done) | (simp [len_bD]; omega) | (simp [len_bD] at *; omega))), .ret _ _ _ c1, .ret _ _ _ c2, tT, .tst (decide ((0 : Int) ≤ (1 : Int) ∧ (1 : Int) ≤ (↑(List.length (List.drop (Int.toNat (1 : Int)) (.int .u8 102 :: .int .u8 h :: .int .u8 15 :: .int .u8 d :: bD v))) : Int))) true (by (first | ((try simp only [List.length_cons, List.length_nil, len_bD, sl2] at *); omega) | (simp [len_bD]; done) | (simp [len_bD]; omega) | (simp [len_bD] at *; omega)))]
 rcases bft (decide (h / (8 : Int) % (2 : Int) = (1 : Int))) with h3 | h3
 ·have c4 := @mr_ok v hv
  let E2 : EL := E1 ++ [tC h3, tF, .get (.int .u8 15 :: .int .u8 d :: bD v) 0 (.int .u8 15) rfl, .tst (decide ((0 : Int) ≤ (1 : Int) ∧ (1 : Int) ≤ (↑(List.length (List.drop (Int.toNat (1 : Int)) (List.drop (Int.toNat (1 : Int)) (.int .u8 102 :: .int .u8 h :: .int .u8 15 :: .int .u8 d :: bD v)))) : Int))) true (by (first | ((try simp only [List.length_cons, List.length_nil, len_bD, sl2] at *); omega) | (simp [len_bD]; done) | (simp [len_bD]; omega) | (simp [len_bD] at *; omega))), tT, tT, tT, tT, tC (ltL 0 (by (first | ((try simp only [List.length_cons, List.length_nil, len_bD, sl2] at *); omega) | (simp [len_bD]; done) | (simp [len_bD]; omega) | (simp [len_bD] at *; omega)) : (decide ((↑(List.length (.int .u8 d :: bD v)) : Int) < (1 : Int))) = false)), .get (.int .u8 d :: bD v) 0 (.int .u8 d) rfl, .tst (decide ((0 : Int) ≤ (1 : Int) ∧ (1 : Int) ≤ (↑(List.length (List.drop (Int.toNat (1 : Int)) (List.drop (Int.toNat (1 : Int)) (List.drop (Int.toNat (1 : Int)) (.int .u8 102 :: .int .u8 h :: .int .u8 15 :: .int .u8 d :: bD v))))) : Int))) true (by (first | ((try simp only [List.length_cons, List.length_nil, len_bD, sl2] at *); omega) | (simp [len_bD]; done) | (simp [len_bD]; omega) | (simp [len_bD] at *; omega))), .ret _ _ _ c4]
  by_cases h5 : mrE v = 0
  ·have c6 := @tail_mr_ok v hv
   have c7 := @pick_mr_ok v
   have c8 := @tail_0_ok v hv
   have c9 := @pick_0_ok v
   exact (o83 (d := .tup [.agg [.int .i8 64, .bool true, .int .u8 d, .int .i8 (IntKind.wrap IntKind.i8 (↑(BitVec.toNat (BitVec.ofInt (8 : Nat) (mrR v) ||| BitVec.ofInt (8 : Nat) (h / (4 : Int) % (2 : Int) * (8 : Int)))) : Int)), .int .i8 (IntKind.wrap IntKind.i8 (↑(BitVec.toNat (BitVec.ofInt (8 : Nat) (mrB v) ||| BitVec.ofInt (8 : Nat) (h % (2 : Int) * (8 : Int)))) : Int)), .int .i64 (mrD v), .int .i64 (tlM v (mrN v)), .int .i64 (IntKind.i64.wrap (pkM v (mrN v))), .int .i64 (tlM v (0 : Nat)), .int .i64 (IntKind.i64.wrap (IntKind.wrap IntKind.i8 (pkM v (0 : Nat)))), .int .i8 (h % (2 : Int) * (8 : Int))], .bool true]) (E2 ++ [tC (nt (eqI 0 true h5)), .ret _ _ _ c6, .ret _ _ _ c7, .ret _ _ _ c8, .ret _ _ _ c9]) (by kernel_rfl)).to (by clear E1 E2; (try simp only [decide_eq_true_eq, decide_eq_false_iff_not, wk, wkL, rawD, parRest, D.int.injEq, D.bool.injEq, true_and, and_true] at *); (try rw [mrE_n' ‹¬ mrE v = 0›]); (try simp only [w_small hv, w_jump, or8r hv (Or.inl rfl), or8b hv (Or.inl rfl), or8r4 hv, or8b2 hv]); first | done | (simp [*]; done) | (simp [*, mrR, mrB, mrD, mrN, tlM, pkM, signed1]; done) | (simp [*, mrR, mrB, mrD, mrN, tlM, pkM, signed1, w_i8]; omega))
  have c10 := @tail_0_ok v hv
  have c11 := @pick_0_ok v
  have c12 := @tail_0_ok v hv
  have c13 := @pick_0_ok v
  exact (o83 (d := .tup [.agg [.int .i8 64, .bool true, .int .u8 d, .int .i8 (IntKind.wrap IntKind.i8 (↑(BitVec.toNat (BitVec.ofInt (8 : Nat) (mrR v) ||| BitVec.ofInt (8 : Nat) (h / (4 : Int) % (2 : Int) * (8 : Int)))) : Int)), .int .i8 (IntKind.wrap IntKind.i8 (↑(BitVec.toNat (BitVec.ofInt (8 : Nat) (mrB v) ||| BitVec.ofInt (8 : Nat) (h % (2 : Int) * (8 : Int)))) : Int)), .int .i64 (mrD v), .int .i64 (tlM v (0 : Nat)), .int .i64 (IntKind.i64.wrap (pkM v (0 : Nat))), .int .i64 (tlM v (0 : Nat)), .int .i64 (IntKind.i64.wrap (IntKind.wrap IntKind.i8 (pkM v (0 : Nat)))), .int .i8 (h % (2 : Int) * (8 : Int))], .bool true]) (E2 ++ [tC (nt (neOf h5)), .ret _ _ _ c10, .ret _ _ _ c11, .ret _ _ _ c12, .ret _ _ _ c13]) (by kernel_rfl)).to (by clear E1 E2; (try simp only [decide_eq_true_eq, decide_eq_false_iff_not, wk, wkL, rawD, parRest, D.int.injEq, D.bool.injEq, true_and, and_true] at *); (try rw [mrE_n' ‹¬ mrE v = 0›]); (try simp only [w_small hv, w_jump, or8r hv (Or.inl rfl), or8b hv (Or.inl rfl), or8r4 hv, or8b2 hv]); first | done | (simp [*]; done) | (simp [*, mrR, mrB, mrD, mrN, tlM, pkM, signed1]; done) | (simp [*, mrR, mrB, mrD, mrN, tlM, pkM, signed1, w_i8]; omega))
 have c14 := @mr_ok v hv
 let E3 : EL := E1 ++ [tC h3, tF, .get (.int .u8 15 :: .int .u8 d :: bD v) 0 (.int .u8 15) rfl, .tst (decide ((0 : Int) ≤ (1 : Int) ∧ (1 : Int) ≤ (↑(List.length (List.drop (Int.toNat (1 : Int)) (List.drop (Int.toNat (1 : Int)) (.int .u8 102 :: .int .u8 h :: .int .u8 15 :: .int .u8 d :: bD v)))) : Int))) true (by (first | ((try simp only [List.length_cons, List.length_nil, len_bD, sl2] at *); omega) | (simp [len_bD]; done) | (simp [len_bD]; omega) | (simp [len_bD] at *; omega))), tT, tT, tT, tT, tC (ltL 0 (by (first | ((try simp only [List.length_cons, List.length_nil, len_bD, sl2] at *); omega) | (simp [len_bD]; done) | (simp [len_bD]; omega) | (simp [len_bD] at *; omega)) : (decide ((↑(List.length (.int .u8 d :: bD v)) : Int) < (1 : Int))) = false)), .get (.int .u8 d :: bD v) 0 (.int .u8 d) rfl, .tst (decide ((0 : Int) ≤ (1 : Int) ∧ (1 : Int) ≤ (↑(List.length (List.drop (Int.toNat (1 : Int)) (List.drop (Int.toNat (1 : Int)) (List.drop (Int.toNat (1 : Int)) (.int .u8 102 :: .int .u8 h :: .int .u8 15 :: .int .u8 d :: bD v))))) : Int))) true (by (first | ((try simp only [List.length_cons, List.length_nil, len_bD, sl2] at *); omega) | (simp [len_bD]; done) | (simp [len_bD]; omega) | (simp [len_bD] at *; omega))), .ret _ _ _ c14]
 by_cases h15 : mrE v = 0
 ·have c16 := @tail_mr_ok v hv
  have c17 := @pick_mr_ok v
  have c18 := @tail_0_ok v hv
  have c19 := @pick_0_ok v
  exact (o83 (d := .tup [.agg [.int .i8 16, .bool true, .int .u8 d, .int .i8 (IntKind.wrap IntKind.i8 (↑(BitVec.toNat (BitVec.ofInt (8 : Nat) (mrR v) ||| BitVec.ofInt (8 : Nat) (h / (4 : Int) % (2 : Int) * (8 : Int)))) : Int)), .int .i8 (IntKind.wrap IntKind.i8 (↑(BitVec.toNat (BitVec.ofInt (8 : Nat) (mrB v) ||| BitVec.ofInt (8 : Nat) (h % (2 : Int) * (8 : Int)))) : Int)), .int .i64 (mrD v), .int .i64 (tlM v (mrN v)), .int .i64 (IntKind.i64.wrap (pkM v (mrN v))), .int .i64 (tlM v (0 : Nat)), .int .i64 (IntKind.i64.wrap (IntKind.wrap IntKind.i8 (pkM v (0 : Nat)))), .int .i8 (h % (2 : Int) * (8 : Int))], .bool true]) (E3 ++ [tC (nt (eqI 0 true h15)), .ret _ _ _ c16, .ret _ _ _ c17, .ret _ _ _ c18, .ret _ _ _ c19]) (by kernel_rfl)).to (by clear E1 E3; (try simp only [decide_eq_true_eq, decide_eq_false_iff_not, wk, wkL, rawD, parRest, D.int.injEq, D.bool.injEq, true_and, and_true] at *); (try rw [mrE_n' ‹¬ mrE v = 0›]); (try simp only [w_small hv, w_jump, or8r hv (Or.inl rfl), or8b hv (Or.inl rfl), or8r4 hv, or8b2 hv]); first | done | (simp [*]; done) | (simp [*, mrR, mrB, mrD, mrN, tlM, pkM, signed1]; done) | (simp [*, mrR, mrB, mrD, mrN, tlM, pkM, signed1, w_i8]; omega))
 have c20 := @tail_0_ok v hv
 have c21 := @pick_0_ok v
 have c22 := @tail_0_ok v hv
 have c23 := @pick_0_ok v
 exact (o83 (d := .tup [.agg [.int .i8 16, .bool true, .int .u8 d, .int .i8 (IntKind.wrap IntKind.i8 (↑(BitVec.toNat (BitVec.ofInt (8 : Nat) (mrR v) ||| BitVec.ofInt (8 : Nat) (h / (4 : Int) % (2 : Int) * (8 : Int)))) : Int)), .int .i8 (IntKind.wrap IntKind.i8 (↑(BitVec.toNat (BitVec.ofInt (8 : Nat) (mrB v) ||| BitVec.ofInt (8 : Nat) (h % (2 : Int) * (8 : Int)))) : Int)), .int .i64 (mrD v), .int .i64 (tlM v (0 : Nat)), .int .i64 (IntKind.i64.wrap (pkM v (0 : Nat))), .int .i64 (tlM v (0 : Nat)), .int .i64 (IntKind.i64.wrap (IntKind.wrap IntKind.i8 (pkM v (0 : Nat)))), .int .i8 (h % (2 : Int) * (8 : Int))], .bool true]) (E3 ++ [tC (nt (neOf h15)), .ret _ _ _ c20, .ret _ _ _ c21, .ret _ _ _ c22, .ret _ _ _ c23]) (by kernel_rfl)).to (by clear E1 E3; (try simp only [decide_eq_true_eq, decide_eq_false_iff_not, wk, wkL, rawD, parRest, D.int.injEq, D.bool.injEq, true_and, and_true] at *); (try rw [mrE_n' ‹¬ mrE v = 0›]); (try simp only [w_small hv, w_jump, or8r hv (Or.inl rfl), or8b hv (Or.inl rfl), or8r4 hv, or8b2 hv]); first | done | (simp [*]; done) | (simp [*, mrR, mrB, mrD, mrN, tlM, pkM, signed1]; done) | (simp [*, mrR, mrB, mrD, mrN, tlM, pkM, signed1, w_i8]; omega))
theorem pa_hr0_ok (h : Int) (g0 : 0 ≤ h) (g1 : h ≤ 255) (hq : rexQ h = true)  : Ret Tryz.prog 83 ([.lst .no 1 (.int .u8 102 :: .int .u8 h :: .int .u8 15 :: [])]) (.tup [rawD (parRest (if h / 8 % 2 = 1 then 64 else 16) (h / 4 % 2 * 8) (h % 2 * 8) false 15 []), .bool true]) := by
 have c0 := @pick_c_ok 102 ([.int .u8 h, .int .u8 15])
 have c1 := @pick_c_ok h ([.int .u8 15])
 have c2 := @rrT_ok h g0 g1 hq
 rcases bft (decide (h / 8 % 2 = 1)) with h3 | h3
 ·have c4 := @mr_nil_ok
  have c5 := @pick_n_ok
  have c6 := @pick_n_ok
  exact (o83 (d := .tup [.agg [.int .i8 64, .bool false, .int .u8 15, .int .i8 (IntKind.wrap IntKind.i8 (↑(BitVec.toNat (BitVec.ofInt (8 : Nat) 0 ||| BitVec.ofInt (8 : Nat) (h / 4 % 2 * 8))) : Int)), .int .i8 (IntKind.wrap IntKind.i8 (↑(BitVec.toNat (BitVec.ofInt (8 : Nat) 0 ||| BitVec.ofInt (8 : Nat) (h % 2 * 8))) : Int)), .int .i64 0, .int .i64 0, .int .i64 0, .int .i64 0, .int .i64 0, .int .i8 (h % 2 * 8)], .bool true]) [.ret _ _ _ c0, tT, tT, .ret _ _ _ c1, .ret _ _ _ c2, tT, tT, tC h3, tF, .get ([.int .u8 15]) 0 (.int .u8 15) rfl, tT, tT, tT, tT, tT, tF, .ret _ _ _ c4, tT, .inl, tT, .ret _ _ _ c5, .inl, tT, .ret _ _ _ c6] (by kernel_rfl)).to (by (try simp only [decide_eq_true_eq, decide_eq_false_iff_not, wk, wkL, rawD, parRest, D.int.injEq, D.bool.injEq, true_and, and_true] at *); (try rw [mrE_n' ‹¬ mrE [] = 0›]); (try simp only [w_small nilB, w_jump, or8r nilB (Or.inl rfl), or8b nilB (Or.inl rfl), or8r4 nilB, or8b2 nilB]); first | done | (simp [*]; done) | (simp [*, mrR, mrB, mrD, mrN, tlM, pkM, signed1]; done) | (simp [*, mrR, mrB, mrD, mrN, tlM, pkM, signed1, w_i8]; omega))
 have c7 := @mr_nil_ok
 have c8 := @pick_n_ok
 have c9 := @pick_n_ok
 exact (o83 (d := .tup [.agg [.int .i8 16, .bool false, .int .u8 15, .int .i8 (IntKind.wrap IntKind.i8 (↑(BitVec.toNat (BitVec.ofInt (8 : Nat) 0 ||| BitVec.ofInt (8 : Nat) (h / 4 % 2 * 8))) : Int)), .int .i8 (IntKind.wrap IntKind.i8 (↑(BitVec.toNat (BitVec.ofInt (8 : Nat) 0 ||| BitVec.ofInt (8 : Nat) (h % 2 * 8))) : Int)), .int .i64 0, .int .i64 0, .int .i64 0, .int .i64 0, .int .i64 0, .int .i8 (h % 2 * 8)], .bool true]) [.ret _ _ _ c0, tT, tT, .ret _ _ _ c1, .ret _ _ _ c2, tT, tT, tC h3, tF, .get ([.int .u8 15]) 0 (.int .u8 15) rfl, tT, tT, tT, tT, tT, tF, .ret _ _ _ c7, tT, .inl, tT, .ret _ _ _ c8, .inl, tT, .ret _ _ _ c9] (by kernel_rfl)).to (by (try simp only [decide_eq_true_eq, decide_eq_false_iff_not, wk, wkL, rawD, parRest, D.int.injEq, D.bool.injEq, true_and, and_true] at *); (try rw [mrE_n' ‹¬ mrE [] = 0›]); (try simp only [w_small nilB, w_jump, or8r nilB (Or.inl rfl), or8b nilB (Or.inl rfl), or8r4 nilB, or8b2 nilB]); first | done | (simp [*]; done) | (simp [*, mrR, mrB, mrD, mrN, tlM, pkM, signed1]; done) | (simp [*, mrR, mrB, mrD, mrN, tlM, pkM, signed1, w_i8]; omega))
theorem pa_hrc_ok (h : Int) (g0 : 0 ≤ h) (g1 : h ≤ 255) (hq : rexQ h = true) (c : Int) (hc : ¬ c = 15) (v : List Int) (hv : isB v)  : Ret Tryz.prog 83 ([.lst .no 1 (.int .u8 102 :: .int .u8 h :: .int .u8 c :: bD v)]) (.tup [rawD (parRest (if h / 8 % 2 = 1 then 64 else 16) (h / 4 % 2 * 8) (h % 2 * 8) false c v), .bool true]) := by
 have c0 := @pick_c_ok 102 (.int .u8 h :: .int .u8 c :: bD v)
 have c1 := @pick_c_ok h (.int .u8 c :: bD v)
 have c2 := @rrT_ok h g0 g1 hq
 let E1 : EL := [.ret _ _ _ c0, tT, .tst (decide ((0 : Int) ≤ (1 : Int) ∧ (1 : Int) ≤ (↑(List.length (.int .u8 102 :: .int .u8 h :: .int .u8 c :: bD v)) : Int))) true (by (first | ((try simp only [List.length_cons, List.length_nil, len_bD, sl2] at *); omega) | (simp [len_bD]; done) | (simp [len_bD]; omega) | (simp [len_bD] at *; omega))), .ret _ _ _ c1, .ret _ _ _ c2, tT, .tst (decide ((0 : Int) ≤ (1 : Int) ∧ (1 : Int) ≤ (↑(List.length (List.drop (Int.toNat (1 : Int)) (.int .u8 102 :: .int .u8 h :: .int .u8 c :: bD v))) : Int))) true (by (first | ((try simp only [List.length_cons, List.length_nil, len_bD, sl2] at *); omega) | (simp [len_bD]; done) | (simp [len_bD]; omega) | (simp [len_bD] at *; omega)))]
 rcases bft (decide (h / (8 : Int) % (2 : Int) = (1 : Int))) with h3 | h3
 ·have c4 := @mr_ok v hv
  let E2 : EL := E1 ++ [tC h3, tF, .get (.int .u8 c :: bD v) 0 (.int .u8 c) rfl, .tst (decide ((0 : Int) ≤ (1 : Int) ∧ (1 : Int) ≤ (↑(List.length (List.drop (Int.toNat (1 : Int)) (List.drop (Int.toNat (1 : Int)) (.int .u8 102 :: .int .u8 h :: .int .u8 c :: bD v)))) : Int))) true (by (first | ((try simp only [List.length_cons, List.length_nil, len_bD, sl2] at *); omega) | (simp [len_bD]; done) | (simp [len_bD]; omega) | (simp [len_bD] at *; omega)))] ++ List.replicate 3 (tC (eT (by (first | ((try simp only [List.length_cons, List.length_nil, len_bD, sl2] at *); omega) | (simp [len_bD]; done) | (simp [len_bD]; omega) | (simp [len_bD] at *; omega)) : (c == (15 : Int)) = false))) ++ [tC (by (first | ((try simp only [List.length_cons, List.length_nil, len_bD, sl2] at *); omega) | (simp [len_bD]; done) | (simp [len_bD]; omega) | (simp [len_bD] at *; omega)) : (c == (15 : Int)) = false), tF, .ret _ _ _ c4]
  by_cases h5 : mrE v = 0
  ·have c6 := @tail_mr_ok v hv
   have c7 := @pick_mr_ok v
   have c8 := @tail_0_ok v hv
   have c9 := @pick_0_ok v
   exact (o83 (d := .tup [.agg [.int .i8 64, .bool false, .int .u8 c, .int .i8 (IntKind.wrap IntKind.i8 (↑(BitVec.toNat (BitVec.ofInt (8 : Nat) (mrR v) ||| BitVec.ofInt (8 : Nat) (h / (4 : Int) % (2 : Int) * (8 : Int)))) : Int)), .int .i8 (IntKind.wrap IntKind.i8 (↑(BitVec.toNat (BitVec.ofInt (8 : Nat) (mrB v) ||| BitVec.ofInt (8 : Nat) (h % (2 : Int) * (8 : Int)))) : Int)), .int .i64 (mrD v), .int .i64 (tlM v (mrN v)), .int .i64 (IntKind.i64.wrap (pkM v (mrN v))), .int .i64 (tlM v (0 : Nat)), .int .i64 (IntKind.i64.wrap (IntKind.wrap IntKind.i8 (pkM v (0 : Nat)))), .int .i8 (h % (2 : Int) * (8 : Int))], .bool true]) (E2 ++ [tC (nt (eqI 0 true h5)), .ret _ _ _ c6, .ret _ _ _ c7, .ret _ _ _ c8, .ret _ _ _ c9]) (by kernel_rfl)).to (by clear E1 E2; (try simp only [decide_eq_true_eq, decide_eq_false_iff_not, wk, wkL, rawD, parRest, D.int.injEq, D.bool.injEq, true_and, and_true] at *); (try rw [mrE_n' ‹¬ mrE v = 0›]); (try simp only [w_small hv, w_jump, or8r hv (Or.inl rfl), or8b hv (Or.inl rfl), or8r4 hv, or8b2 hv]); first | done | (simp [*]; done) | (simp [*, mrR, mrB, mrD, mrN, tlM, pkM, signed1]; done) | (simp [*, mrR, mrB, mrD, mrN, tlM, pkM, signed1, w_i8]; omega))
  have c10 := @tail_0_ok v hv
  have c11 := @pick_0_ok v
  have c12 := @tail_0_ok v hv
  have c13 := @pick_0_ok v
  exact (o83 (d := .tup [.agg [.int .i8 64, .bool false, .int .u8 c, .int .i8 (IntKind.wrap IntKind.i8 (↑(BitVec.toNat (BitVec.ofInt (8 : Nat) (mrR v) ||| BitVec.ofInt (8 : Nat) (h / (4 : Int) % (2 : Int) * (8 : Int)))) : Int)), .int .i8 (IntKind.wrap IntKind.i8 (↑(BitVec.toNat (BitVec.ofInt (8 : Nat) (mrB v) ||| BitVec.ofInt (8 : Nat) (h % (2 : Int) * (8 : Int)))) : Int)), .int .i64 (mrD v), .int .i64 (tlM v (0 : Nat)), .int .i64 (IntKind.i64.wrap (pkM v (0 : Nat))), .int .i64 (tlM v (0 : Nat)), .int .i64 (IntKind.i64.wrap (IntKind.wrap IntKind.i8 (pkM v (0 : Nat)))), .int .i8 (h % (2 : Int) * (8 : Int))], .bool true]) (E2 ++ [tC (nt (neOf h5)), .ret _ _ _ c10, .ret _ _ _ c11, .ret _ _ _ c12, .ret _ _ _ c13]) (by kernel_rfl)).to (by clear E1 E2; (try simp only [decide_eq_true_eq, decide_eq_false_iff_not, wk, wkL, rawD, parRest, D.int.injEq, D.bool.injEq, true_and, and_true] at *); (try rw [mrE_n' ‹¬ mrE v = 0›]); (try simp only [w_small hv, w_jump, or8r hv (Or.inl rfl), or8b hv (Or.inl rfl), or8r4 hv, or8b2 hv]); first | done | (simp [*]; done) | (simp [*, mrR, mrB, mrD, mrN, tlM, pkM, signed1]; done) | (simp [*, mrR, mrB, mrD, mrN, tlM, pkM, signed1, w_i8]; omega))
 have c14 := @mr_ok v hv
 let E3 : EL := E1 ++ [tC h3, tF, .get (.int .u8 c :: bD v) 0 (.int .u8 c) rfl, .tst (decide ((0 : Int) ≤ (1 : Int) ∧ (1 : Int) ≤ (↑(List.length (List.drop (Int.toNat (1 : Int)) (List.drop (Int.toNat (1 : Int)) (.int .u8 102 :: .int .u8 h :: .int .u8 c :: bD v)))) : Int))) true (by (first | ((try simp only [List.length_cons, List.length_nil, len_bD, sl2] at *); omega) | (simp [len_bD]; done) | (simp [len_bD]; omega) | (simp [len_bD] at *; omega)))] ++ List.replicate 3 (tC (eT (by (first | ((try simp only [List.length_cons, List.length_nil, len_bD, sl2] at *); omega) | (simp [len_bD]; done) | (simp [len_bD]; omega) | (simp [len_bD] at *; omega)) : (c == (15 : Int)) = false))) ++ [tC (by (first | ((try simp only [List.length_cons, List.length_nil, len_bD, sl2] at *); omega) | (simp [len_bD]; done) | (simp [len_bD]; omega) | (simp [len_bD] at *; omega)) : (c == (15 : Int)) = false), tF, .ret _ _ _ c14]
 by_cases h15 : mrE v = 0
 ·have c16 := @tail_mr_ok v hv
  have c17 := @pick_mr_ok v
  have c18 := @tail_0_ok v hv
  have c19 := @pick_0_ok v
  exact (o83 (d := .tup [.agg [.int .i8 16, .bool false, .int .u8 c, .int .i8 (IntKind.wrap IntKind.i8 (↑(BitVec.toNat (BitVec.ofInt (8 : Nat) (mrR v) ||| BitVec.ofInt (8 : Nat) (h / (4 : Int) % (2 : Int) * (8 : Int)))) : Int)), .int .i8 (IntKind.wrap IntKind.i8 (↑(BitVec.toNat (BitVec.ofInt (8 : Nat) (mrB v) ||| BitVec.ofInt (8 : Nat) (h % (2 : Int) * (8 : Int)))) : Int)), .int .i64 (mrD v), .int .i64 (tlM v (mrN v)), .int .i64 (IntKind.i64.wrap (pkM v (mrN v))), .int .i64 (tlM v (0 : Nat)), .int .i64 (IntKind.i64.wrap (IntKind.wrap IntKind.i8 (pkM v (0 : Nat)))), .int .i8 (h % (2 : Int) * (8 : Int))], .bool true]) (E3 ++ [tC (nt (eqI 0 true h15)), .ret _ _ _ c16, .ret _ _ _ c17, .ret _ _ _ c18, .ret _ _ _ c19]) (by kernel_rfl)).to (by clear E1 E3; (try simp only [decide_eq_true_eq, decide_eq_false_iff_not, wk, wkL, rawD, parRest, D.int.injEq, D.bool.injEq, true_and, and_true] at *); (try rw [mrE_n' ‹¬ mrE v = 0›]); (try simp only [w_small hv, w_jump, or8r hv (Or.inl rfl), or8b hv (Or.inl rfl), or8r4 hv, or8b2 hv]); first | done | (simp [*]; done) | (simp [*, mrR, mrB, mrD, mrN, tlM, pkM, signed1]; done) | (simp [*, mrR, mrB, mrD, mrN, tlM, pkM, signed1, w_i8]; omega))
 have c20 := @tail_0_ok v hv
 have c21 := @pick_0_ok v
 have c22 := @tail_0_ok v hv
 have c23 := @pick_0_ok v
 exact (o83 (d := .tup [.agg [.int .i8 16, .bool false, .int .u8 c, .int .i8 (IntKind.wrap IntKind.i8 (↑(BitVec.toNat (BitVec.ofInt (8 : Nat) (mrR v) ||| BitVec.ofInt (8 : Nat) (h / (4 : Int) % (2 : Int) * (8 : Int)))) : Int)), .int .i8 (IntKind.wrap IntKind.i8 (↑(BitVec.toNat (BitVec.ofInt (8 : Nat) (mrB v) ||| BitVec.ofInt (8 : Nat) (h % (2 : Int) * (8 : Int)))) : Int)), .int .i64 (mrD v), .int .i64 (tlM v (0 : Nat)), .int .i64 (IntKind.i64.wrap (pkM v (0 : Nat))), .int .i64 (tlM v (0 : Nat)), .int .i64 (IntKind.i64.wrap (IntKind.wrap IntKind.i8 (pkM v (0 : Nat)))), .int .i8 (h % (2 : Int) * (8 : Int))], .bool true]) (E3 ++ [tC (nt (neOf h15)), .ret _ _ _ c20, .ret _ _ _ c21, .ret _ _ _ c22, .ret _ _ _ c23]) (by kernel_rfl)).to (by clear E1 E3; (try simp only [decide_eq_true_eq, decide_eq_false_iff_not, wk, wkL, rawD, parRest, D.int.injEq, D.bool.injEq, true_and, and_true] at *); (try rw [mrE_n' ‹¬ mrE v = 0›]); (try simp only [w_small hv, w_jump, or8r hv (Or.inl rfl), or8b hv (Or.inl rfl), or8r4 hv, or8b2 hv]); first | done | (simp [*]; done) | (simp [*, mrR, mrB, mrD, mrN, tlM, pkM, signed1]; done) | (simp [*, mrR, mrB, mrD, mrN, tlM, pkM, signed1, w_i8]; omega))
theorem parse_ok (b : List Int) (hb : isB b) : ∃ x, Ret Tryz.prog 83 [.lst .no 1 (bD b)] (.tup [rawD x, .bool (parM b).isSome]) ∧ ∀ s, parM b = some s → x = s := by
 have rex : ∀ (half : Bool) (w : Int) (p t : List Int), isB t → (half = true ∧ p = [102] ∧ w = 16 ∨ half = false ∧ p = [] ∧ w = 32 ∧ hd t ≠ 102) → parM (p ++ t) = parRex w t →
   ∃ x, Ret Tryz.prog 83 [.lst .no 1 (bD (p ++ t))] (.tup [rawD x, .bool (parM (p ++ t)).isSome]) ∧ ∀ s, parM (p ++ t) = some s → x = s := by
  intro half w p t ht hc hp
  rw [hp]
  have out : ∀ (x : RawS) (k : Bool), Ret Tryz.prog 83 [.lst .no 1 (bD (p ++ t))] (.tup [rawD x, .bool k]) → (k = false ∧ parRex w t = none) ∨ (k = true ∧ parRex w t = some x) →
    ∃ x, Ret Tryz.prog 83 [.lst .no 1 (bD (p ++ t))] (.tup [rawD x, .bool (parRex w t).isSome]) ∧ ∀ s, parRex w t = some s → x = s := by
   rintro x k h (⟨rfl, e⟩ | ⟨rfl, e⟩)
   ·exact ⟨x, by rw [e]; exact h, fun s hs => by rw [e] at hs; cases hs⟩
   ·exact ⟨x, by rw [e]; exact h, fun s hs => by rw [e] at hs; exact Option.some.inj hs⟩
  match t, ht with
  | [], _ =>
   rcases hc with ⟨-, rfl, rfl⟩ | ⟨-, rfl, rfl, -⟩
   ·exact out _ _ pa_hxe_ok (.inl ⟨rfl, rfl⟩)
   ·exact out _ _ pa_nxe_ok (.inl ⟨rfl, rfl⟩)
  | h :: u, ht =>
   obtain ⟨⟨g0, g1⟩, hu⟩ := isB_cons.1 ht
   by_cases hq : rexQ h = true
   ·
    have e : parRex w (h :: u) = parCode (if h / 8 % 2 = 1 then 64 else w) (h / 4 % 2 * 8) (h % 2 * 8) u := by simp only [parRex, if_pos hq]
    match u, hu with
    | [], _ =>
     rcases hc with ⟨-, rfl, rfl⟩ | ⟨-, rfl, rfl, hh⟩
     ·exact out _ _ (pa_hre_ok h g0 g1 hq) (.inl ⟨rfl, by rw [e]; rfl⟩)
     ·exact out _ _ (pa_nre_ok h g0 g1 hq (by simpa [hd] using hh)) (.inl ⟨rfl, by rw [e]; rfl⟩)
    | c :: v, hu =>
     obtain ⟨⟨k0, k1⟩, hv⟩ := isB_cons.1 hu
     by_cases hc15 : c = 15
     ·subst hc15
      match v, hv with
      | [], _ =>
       rcases hc with ⟨-, rfl, rfl⟩ | ⟨-, rfl, rfl, hh⟩
       ·exact out _ _ (pa_hr0_ok h g0 g1 hq) (.inr ⟨rfl, by rw [e]; rfl⟩)
       ·exact out _ _ (pa_nr0_ok h g0 g1 hq (by simpa [hd] using hh)) (.inr ⟨rfl, by rw [e]; rfl⟩)
      | d :: v, hv =>
       obtain ⟨-, hv⟩ := isB_cons.1 hv
       rcases hc with ⟨-, rfl, rfl⟩ | ⟨-, rfl, rfl, hh⟩
       ·exact out _ _ (pa_hr1_ok h g0 g1 hq d v hv) (.inr ⟨rfl, by rw [e]; rfl⟩)
       ·exact out _ _ (pa_nr1_ok h g0 g1 hq (by simpa [hd] using hh) d v hv) (.inr ⟨rfl, by rw [e]; rfl⟩)
     ·rcases hc with ⟨-, rfl, rfl⟩ | ⟨-, rfl, rfl, hh⟩
      ·exact out _ _ (pa_hrc_ok h g0 g1 hq c hc15 v hv) (.inr ⟨rfl, by rw [e]; exact parCode_c hc15⟩)
      ·exact out _ _ (pa_nrc_ok h g0 g1 hq (by simpa [hd] using hh) c hc15 v hv) (.inr ⟨rfl, by rw [e]; exact parCode_c hc15⟩)
   ·
    have hq' : rexQ h = false := by simpa using hq
    have e : parRex w (h :: u) = parCode w 0 0 (h :: u) := by simp only [parRex, if_neg hq]
    by_cases hc15 : h = 15
    ·subst hc15
     match u, hu with
     | [], _ =>
      rcases hc with ⟨-, rfl, rfl⟩ | ⟨-, rfl, rfl, hh⟩
      ·exact out _ _ pa_hx0_ok (.inr ⟨rfl, by rw [e]; rfl⟩)
      ·exact out _ _ pa_nx0_ok (.inr ⟨rfl, by rw [e]; rfl⟩)
     | d :: v, hu =>
      obtain ⟨-, hv⟩ := isB_cons.1 hu
      rcases hc with ⟨-, rfl, rfl⟩ | ⟨-, rfl, rfl, hh⟩
      ·exact out _ _ (pa_hx1_ok d v hv) (.inr ⟨rfl, by rw [e]; rfl⟩)
      ·exact out _ _ (pa_nx1_ok d v hv) (.inr ⟨rfl, by rw [e]; rfl⟩)
    ·rcases hc with ⟨-, rfl, rfl⟩ | ⟨-, rfl, rfl, hh⟩
     ·exact out _ _ (pa_hxc_ok h g0 g1 hq' hc15 u hu) (.inr ⟨rfl, by rw [e]; exact parCode_c hc15⟩)
     ·exact out _ _ (pa_nxc_ok h g0 g1 hq' (by simpa [hd] using hh) hc15 u hu) (.inr ⟨rfl, by rw [e]; exact parCode_c hc15⟩)
 by_cases h102 : hd b = 102
 ·match b, hb, h102 with
  | a :: t, hb, h102 =>
   have ha : a = 102 := by simpa [hd] using h102
   subst ha
   exact rex true 16 [102] t (isB_cons.1 hb).2 (.inl ⟨rfl, rfl, rfl⟩) (by simp only [parM, List.cons_append, List.nil_append]; rw [if_pos (by rfl)]; rfl)
  | [], _, h => simp [hd] at h
 ·exact rex false 32 [] b hb (.inr ⟨rfl, rfl, rfl, h102⟩) (by simp only [parM, List.nil_append]; rw [if_neg h102])
end Go.Proofs.YtglcgdnaanhddaaGreat
